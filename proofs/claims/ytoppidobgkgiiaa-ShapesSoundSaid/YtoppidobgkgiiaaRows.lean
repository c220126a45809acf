/-
  No cell of these rows narrows 'for every input' (looked for: loops, veiled, ifaces, maps, wideKeys, modest, calm, conditions, laid).
  DERIVED. THE GIVEN ROWS OF THIS SEAT. 6 by the template 'for every input the law returns true; each argument reads behind the call as it read before'; 0 by the template 'total and deterministic' (their statements: YtoppidobgkgiiaaTotals.lean).
  GIVEN WITH THE SEED: the statements are not yours to turn. If you find one false, say at which input.
  Laid BY PROGRAM, IN A SANDBOX (cutbox-rows.mjs): the forced cells as the released guide's own fill.sh prints them over the translation 5cc8fdc282e7441c… (all of the seat's roots in one cut). By AI agents, Wed Nov 11 2026. No macro, syntax, notation, axiom, sorry.
-/
import Derived.Test.YtoppidobgkgiiaaChecked
import GoSem.Claim
import GoSem.ClaimJoined
import GoSem.ClaimMapViews
import Derived.JoinedTies
import Derived.KernelRfl
namespace Go.Proofs.Ytoppidobgkgiiaa
/- THE CELL 'sum', in the pinned program and in every row, IS THE sha256 OF THE DUMP (.gsa) THAT YtoppidobgkgiiaaProg.lean LOADS. Nothing in Lean hashes anything: it is a label: what it is worth is what the hold of that sum in a sandbox is worth. -/
noncomputable def Try.pinned : Pinned := { name := "ytoppidobgkgiiaa", sum := "5cc8fdc282e7441cc313c94aa7548a1dff6563b881bc22d1802213cbddc455f3", checked := Try.checked }
namespace Rows
def none {H : Type} : Left H := { results := [], args := [] }

/-- 'additivelaw13.ShapesBoxes': WHATEVER THE INPUT: true; the input reads as it did. -/
def shapesBoxesSpec : ChangeSpec := { name := "shapesBoxes", fn := fun _ => fun
  | [d1, d2] => { results := [.lit (.bool true)], args := [d1, d2] }
  | _ => none }
def shapesBoxesRow : OpenClaim := { program := "ytoppidobgkgiiaa", sum := "5cc8fdc282e7441cc313c94aa7548a1dff6563b881bc22d1802213cbddc455f3", func := "additive/additivelaw13.ShapesBoxes", spec := "shapesBoxes", unfollowed := true, recurses := true, plainKeys := false, apart := false }
def ShapesBoxesSaid : Prop := shapesBoxesRow.holds Try.pinned (OpenSpec.ofChange shapesBoxesSpec)

/-- ITS FALSE NEIGHBOUR: 'it returns false'. Refute it at one input. -/
def shapesBoxesWrong : ChangeSpec := { name := "shapesBoxes", fn := fun _ => fun
  | [d1, d2] => { results := [.lit (.bool false)], args := [d1, d2] }
  | _ => none }
def ShapesBoxesWrongFalsely : Prop := shapesBoxesRow.holds Try.pinned (OpenSpec.ofChange shapesBoxesWrong)

/-- 'additivelaw13.ShapesBases': WHATEVER THE INPUT: true; the input reads as it did. -/
def shapesBasesSpec : ChangeSpec := { name := "shapesBases", fn := fun _ => fun
  | [d] => { results := [.lit (.bool true)], args := [d] }
  | _ => none }
def shapesBasesRow : OpenClaim := { program := "ytoppidobgkgiiaa", sum := "5cc8fdc282e7441cc313c94aa7548a1dff6563b881bc22d1802213cbddc455f3", func := "additive/additivelaw13.ShapesBases", spec := "shapesBases", unfollowed := true, recurses := true, plainKeys := false, apart := false }
def ShapesBasesSaid : Prop := shapesBasesRow.holds Try.pinned (OpenSpec.ofChange shapesBasesSpec)

/-- ITS FALSE NEIGHBOUR: 'it returns false'. Refute it at one input. -/
def shapesBasesWrong : ChangeSpec := { name := "shapesBases", fn := fun _ => fun
  | [d] => { results := [.lit (.bool false)], args := [d] }
  | _ => none }
def ShapesBasesWrongFalsely : Prop := shapesBasesRow.holds Try.pinned (OpenSpec.ofChange shapesBasesWrong)

/-- 'additivelaw13.ShapesMoves': WHATEVER THE INPUT: true; the input reads as it did. -/
def shapesMovesSpec : ChangeSpec := { name := "shapesMoves", fn := fun _ => fun
  | [d1, d2, d3] => { results := [.lit (.bool true)], args := [d1, d2, d3] }
  | _ => none }
def shapesMovesRow : OpenClaim := { program := "ytoppidobgkgiiaa", sum := "5cc8fdc282e7441cc313c94aa7548a1dff6563b881bc22d1802213cbddc455f3", func := "additive/additivelaw13.ShapesMoves", spec := "shapesMoves", unfollowed := true, recurses := true, plainKeys := false, apart := false }
def ShapesMovesSaid : Prop := shapesMovesRow.holds Try.pinned (OpenSpec.ofChange shapesMovesSpec)

/-- ITS FALSE NEIGHBOUR: 'it returns false'. Refute it at one input. -/
def shapesMovesWrong : ChangeSpec := { name := "shapesMoves", fn := fun _ => fun
  | [d1, d2, d3] => { results := [.lit (.bool false)], args := [d1, d2, d3] }
  | _ => none }
def ShapesMovesWrongFalsely : Prop := shapesMovesRow.holds Try.pinned (OpenSpec.ofChange shapesMovesWrong)

/-- 'additivelaw13.ShapesScales': WHATEVER THE INPUT: true; the input reads as it did. -/
def shapesScalesSpec : ChangeSpec := { name := "shapesScales", fn := fun _ => fun
  | [d1, d2, d3] => { results := [.lit (.bool true)], args := [d1, d2, d3] }
  | _ => none }
def shapesScalesRow : OpenClaim := { program := "ytoppidobgkgiiaa", sum := "5cc8fdc282e7441cc313c94aa7548a1dff6563b881bc22d1802213cbddc455f3", func := "additive/additivelaw13.ShapesScales", spec := "shapesScales", unfollowed := true, recurses := true, plainKeys := false, apart := false }
def ShapesScalesSaid : Prop := shapesScalesRow.holds Try.pinned (OpenSpec.ofChange shapesScalesSpec)

/-- ITS FALSE NEIGHBOUR: 'it returns false'. Refute it at one input. -/
def shapesScalesWrong : ChangeSpec := { name := "shapesScales", fn := fun _ => fun
  | [d1, d2, d3] => { results := [.lit (.bool false)], args := [d1, d2, d3] }
  | _ => none }
def ShapesScalesWrongFalsely : Prop := shapesScalesRow.holds Try.pinned (OpenSpec.ofChange shapesScalesWrong)

/-- 'additivelaw13.ShapesBack': WHATEVER THE INPUT: true; the input reads as it did. -/
def shapesBackSpec : ChangeSpec := { name := "shapesBack", fn := fun _ => fun
  | [d1, d2, d3] => { results := [.lit (.bool true)], args := [d1, d2, d3] }
  | _ => none }
def shapesBackRow : OpenClaim := { program := "ytoppidobgkgiiaa", sum := "5cc8fdc282e7441cc313c94aa7548a1dff6563b881bc22d1802213cbddc455f3", func := "additive/additivelaw13.ShapesBack", spec := "shapesBack", unfollowed := true, recurses := true, plainKeys := false, apart := false }
def ShapesBackSaid : Prop := shapesBackRow.holds Try.pinned (OpenSpec.ofChange shapesBackSpec)

/-- ITS FALSE NEIGHBOUR: 'it returns false'. Refute it at one input. -/
def shapesBackWrong : ChangeSpec := { name := "shapesBack", fn := fun _ => fun
  | [d1, d2, d3] => { results := [.lit (.bool false)], args := [d1, d2, d3] }
  | _ => none }
def ShapesBackWrongFalsely : Prop := shapesBackRow.holds Try.pinned (OpenSpec.ofChange shapesBackWrong)

/-- 'additivelaw13.ShapesSound': WHATEVER THE INPUT: true; the input reads as it did. -/
def shapesSoundSpec : ChangeSpec := { name := "shapesSound", fn := fun _ => fun
  | [d] => { results := [.lit (.bool true)], args := [d] }
  | _ => none }
def shapesSoundRow : OpenClaim := { program := "ytoppidobgkgiiaa", sum := "5cc8fdc282e7441cc313c94aa7548a1dff6563b881bc22d1802213cbddc455f3", func := "additive/additivelaw13.ShapesSound", spec := "shapesSound", unfollowed := true, recurses := true, plainKeys := false, apart := false }
def ShapesSoundSaid : Prop := shapesSoundRow.holds Try.pinned (OpenSpec.ofChange shapesSoundSpec)

/-- ITS FALSE NEIGHBOUR: 'it returns false'. Refute it at one input. -/
def shapesSoundWrong : ChangeSpec := { name := "shapesSound", fn := fun _ => fun
  | [d] => { results := [.lit (.bool false)], args := [d] }
  | _ => none }
def ShapesSoundWrongFalsely : Prop := shapesSoundRow.holds Try.pinned (OpenSpec.ofChange shapesSoundWrong)

/- THE SECOND FORM. 'bulk': how many values and letters a reading holds, each counted each time it is reached (what is shared counts as often as it is met; a slice's spare places count too). A statement '..UptoSaid' is the law's where the arguments, and the package variables that the reading takes, are together of bulk at most 1048576: NARROWER than '..Said'. Prove '..Said' where nothing that the law and all that it calls make is longer than what came in: it says more and counts as full. Else prove '..UptoSaid'. A law counts once. -/
mutual
def uptoBulk {H : Type} : DataW H → Nat
  | .lit (.string bytes) => bytes.length + 1
  | .lit _ => 1
  | .nil => 1
  | .ptr d => uptoBulk d + 1
  | .slice elems spare => uptoBulkAll elems + uptoBulkAll spare + 1
  | .agg parts => uptoBulkAll parts + 1
  | .iface _ d => uptoBulk d + 1
  | .map entries => uptoBulkEntries entries + 1
  | .held _ => 1
def uptoBulkAll {H : Type} : List (DataW H) → Nat
  | [] => 0
  | d :: r => uptoBulk d + uptoBulkAll r
def uptoBulkEntries {H : Type} : List (Lit × DataW H) → Nat
  | [] => 0
  | x :: r => uptoBulkEntry x + uptoBulkEntries r
def uptoBulkEntry {H : Type} : Lit × DataW H → Nat
  | (.string bytes, d) => bytes.length + uptoBulk d + 1
  | (_, d) => uptoBulk d + 1
 end
def uptoSmall : (H : Type) → List (DataW H) → Bool := fun _ ds => decide (uptoBulkAll ds ≤ 1048576)
def OpenSpec.upto (s : _root_.Go.ChangeSpec) : _root_.Go.OpenSpec := { _root_.Go.OpenSpec.ofChange s with cond := some uptoSmall }

/-- 'additivelaw13.ShapesBoxes', WHERE WHAT IT READS IS OF BULK AT MOST 1048576: true; the input reads as it did. -/
def shapesBoxesUptoRow : OpenClaim := { program := "ytoppidobgkgiiaa", sum := "5cc8fdc282e7441cc313c94aa7548a1dff6563b881bc22d1802213cbddc455f3", func := "additive/additivelaw13.ShapesBoxes", spec := "shapesBoxes", unfollowed := true, recurses := true, plainKeys := false, apart := false, narrowed := true }
def ShapesBoxesUptoSaid : Prop := shapesBoxesUptoRow.holds Try.pinned (OpenSpec.upto shapesBoxesSpec)

/-- 'additivelaw13.ShapesBases', WHERE WHAT IT READS IS OF BULK AT MOST 1048576: true; the input reads as it did. -/
def shapesBasesUptoRow : OpenClaim := { program := "ytoppidobgkgiiaa", sum := "5cc8fdc282e7441cc313c94aa7548a1dff6563b881bc22d1802213cbddc455f3", func := "additive/additivelaw13.ShapesBases", spec := "shapesBases", unfollowed := true, recurses := true, plainKeys := false, apart := false, narrowed := true }
def ShapesBasesUptoSaid : Prop := shapesBasesUptoRow.holds Try.pinned (OpenSpec.upto shapesBasesSpec)

/-- 'additivelaw13.ShapesMoves', WHERE WHAT IT READS IS OF BULK AT MOST 1048576: true; the input reads as it did. -/
def shapesMovesUptoRow : OpenClaim := { program := "ytoppidobgkgiiaa", sum := "5cc8fdc282e7441cc313c94aa7548a1dff6563b881bc22d1802213cbddc455f3", func := "additive/additivelaw13.ShapesMoves", spec := "shapesMoves", unfollowed := true, recurses := true, plainKeys := false, apart := false, narrowed := true }
def ShapesMovesUptoSaid : Prop := shapesMovesUptoRow.holds Try.pinned (OpenSpec.upto shapesMovesSpec)

/-- 'additivelaw13.ShapesScales', WHERE WHAT IT READS IS OF BULK AT MOST 1048576: true; the input reads as it did. -/
def shapesScalesUptoRow : OpenClaim := { program := "ytoppidobgkgiiaa", sum := "5cc8fdc282e7441cc313c94aa7548a1dff6563b881bc22d1802213cbddc455f3", func := "additive/additivelaw13.ShapesScales", spec := "shapesScales", unfollowed := true, recurses := true, plainKeys := false, apart := false, narrowed := true }
def ShapesScalesUptoSaid : Prop := shapesScalesUptoRow.holds Try.pinned (OpenSpec.upto shapesScalesSpec)

/-- 'additivelaw13.ShapesBack', WHERE WHAT IT READS IS OF BULK AT MOST 1048576: true; the input reads as it did. -/
def shapesBackUptoRow : OpenClaim := { program := "ytoppidobgkgiiaa", sum := "5cc8fdc282e7441cc313c94aa7548a1dff6563b881bc22d1802213cbddc455f3", func := "additive/additivelaw13.ShapesBack", spec := "shapesBack", unfollowed := true, recurses := true, plainKeys := false, apart := false, narrowed := true }
def ShapesBackUptoSaid : Prop := shapesBackUptoRow.holds Try.pinned (OpenSpec.upto shapesBackSpec)

/-- 'additivelaw13.ShapesSound', WHERE WHAT IT READS IS OF BULK AT MOST 1048576: true; the input reads as it did. -/
def shapesSoundUptoRow : OpenClaim := { program := "ytoppidobgkgiiaa", sum := "5cc8fdc282e7441cc313c94aa7548a1dff6563b881bc22d1802213cbddc455f3", func := "additive/additivelaw13.ShapesSound", spec := "shapesSound", unfollowed := true, recurses := true, plainKeys := false, apart := false, narrowed := true }
def ShapesSoundUptoSaid : Prop := shapesSoundUptoRow.holds Try.pinned (OpenSpec.upto shapesSoundSpec)

end Rows
end Go.Proofs.Ytoppidobgkgiiaa
