/-
  No cell of these rows narrows 'for every input' (looked for: loops, veiled, ifaces, maps, wideKeys, modest, calm, conditions, laid).
  DERIVED. THE GIVEN ROWS OF THIS SEAT. 5 by the template 'for every input the law returns true; each argument reads behind the call as it read before'; 0 by the template 'total and deterministic' (their statements: YtkefjgfcbcpcbaaTotals.lean).
  GIVEN WITH THE SEED: the statements are not yours to turn. If you find one false, say at which input.
  Laid BY PROGRAM, IN A SANDBOX (cutbox-rows.mjs): the forced cells as the released guide's own fill.sh prints them over the translation 5765dbd9f411e9e7… (all of the seat's roots in one cut). By AI agents, Wed Nov 11 2026. No macro, syntax, notation, axiom, sorry.
-/
import Derived.Test.YtkefjgfcbcpcbaaChecked
import GoSem.Claim
import GoSem.ClaimJoined
import GoSem.ClaimMapViews
import Derived.JoinedTies
import Derived.KernelRfl
namespace Go.Proofs.Ytkefjgfcbcpcbaa
/- THE CELL 'sum', in the pinned program and in every row, IS THE sha256 OF THE DUMP (.gsa) THAT YtkefjgfcbcpcbaaProg.lean LOADS. Nothing in Lean hashes anything: it is a label: what it is worth is what the hold of that sum in a sandbox is worth. -/
noncomputable def Try.pinned : Pinned := { name := "ytkefjgfcbcpcbaa", sum := "5765dbd9f411e9e745f9bcf9c13f795a6b3b852297f3c84ee9b98e502d619a17", checked := Try.checked }
namespace Rows
def none {H : Type} : Left H := { results := [], args := [] }

/-- 'additivelaw09.WeldMerges': WHATEVER THE INPUT: true; the input reads as it did. -/
def weldMergesSpec : ChangeSpec := { name := "weldMerges", fn := fun _ => fun
  | [d] => { results := [.lit (.bool true)], args := [d] }
  | _ => none }
def weldMergesRow : OpenClaim := { program := "ytkefjgfcbcpcbaa", sum := "5765dbd9f411e9e745f9bcf9c13f795a6b3b852297f3c84ee9b98e502d619a17", func := "additive/additivelaw09.WeldMerges", spec := "weldMerges", unfollowed := true, recurses := true, plainKeys := false, apart := false }
def WeldMergesSaid : Prop := weldMergesRow.holds Try.pinned (OpenSpec.ofChange weldMergesSpec)

/-- ITS FALSE NEIGHBOUR: 'it returns false'. Refute it at one input. -/
def weldMergesWrong : ChangeSpec := { name := "weldMerges", fn := fun _ => fun
  | [d] => { results := [.lit (.bool false)], args := [d] }
  | _ => none }
def WeldMergesWrongFalsely : Prop := weldMergesRow.holds Try.pinned (OpenSpec.ofChange weldMergesWrong)

/-- 'additivelaw09.WeldKeeps': WHATEVER THE INPUT: true; the input reads as it did. -/
def weldKeepsSpec : ChangeSpec := { name := "weldKeeps", fn := fun _ => fun
  | [d] => { results := [.lit (.bool true)], args := [d] }
  | _ => none }
def weldKeepsRow : OpenClaim := { program := "ytkefjgfcbcpcbaa", sum := "5765dbd9f411e9e745f9bcf9c13f795a6b3b852297f3c84ee9b98e502d619a17", func := "additive/additivelaw09.WeldKeeps", spec := "weldKeeps", unfollowed := true, recurses := true, plainKeys := false, apart := false }
def WeldKeepsSaid : Prop := weldKeepsRow.holds Try.pinned (OpenSpec.ofChange weldKeepsSpec)

/-- ITS FALSE NEIGHBOUR: 'it returns false'. Refute it at one input. -/
def weldKeepsWrong : ChangeSpec := { name := "weldKeeps", fn := fun _ => fun
  | [d] => { results := [.lit (.bool false)], args := [d] }
  | _ => none }
def WeldKeepsWrongFalsely : Prop := weldKeepsRow.holds Try.pinned (OpenSpec.ofChange weldKeepsWrong)

/-- 'additivelaw09.WeldFirst': WHATEVER THE INPUT: true; the input reads as it did. -/
def weldFirstSpec : ChangeSpec := { name := "weldFirst", fn := fun _ => fun
  | [d] => { results := [.lit (.bool true)], args := [d] }
  | _ => none }
def weldFirstRow : OpenClaim := { program := "ytkefjgfcbcpcbaa", sum := "5765dbd9f411e9e745f9bcf9c13f795a6b3b852297f3c84ee9b98e502d619a17", func := "additive/additivelaw09.WeldFirst", spec := "weldFirst", unfollowed := true, recurses := true, plainKeys := false, apart := false }
def WeldFirstSaid : Prop := weldFirstRow.holds Try.pinned (OpenSpec.ofChange weldFirstSpec)

/-- ITS FALSE NEIGHBOUR: 'it returns false'. Refute it at one input. -/
def weldFirstWrong : ChangeSpec := { name := "weldFirst", fn := fun _ => fun
  | [d] => { results := [.lit (.bool false)], args := [d] }
  | _ => none }
def WeldFirstWrongFalsely : Prop := weldFirstRow.holds Try.pinned (OpenSpec.ofChange weldFirstWrong)

/-- 'additivelaw09.WeldCleans': WHATEVER THE INPUT: true; the input reads as it did. -/
def weldCleansSpec : ChangeSpec := { name := "weldCleans", fn := fun _ => fun
  | [d1, d2] => { results := [.lit (.bool true)], args := [d1, d2] }
  | _ => none }
def weldCleansRow : OpenClaim := { program := "ytkefjgfcbcpcbaa", sum := "5765dbd9f411e9e745f9bcf9c13f795a6b3b852297f3c84ee9b98e502d619a17", func := "additive/additivelaw09.WeldCleans", spec := "weldCleans", unfollowed := true, recurses := true, plainKeys := false, apart := false }
def WeldCleansSaid : Prop := weldCleansRow.holds Try.pinned (OpenSpec.ofChange weldCleansSpec)

/-- ITS FALSE NEIGHBOUR: 'it returns false'. Refute it at one input. -/
def weldCleansWrong : ChangeSpec := { name := "weldCleans", fn := fun _ => fun
  | [d1, d2] => { results := [.lit (.bool false)], args := [d1, d2] }
  | _ => none }
def WeldCleansWrongFalsely : Prop := weldCleansRow.holds Try.pinned (OpenSpec.ofChange weldCleansWrong)

/-- 'additivelaw09.WeldOnce': WHATEVER THE INPUT: true; the input reads as it did. -/
def weldOnceSpec : ChangeSpec := { name := "weldOnce", fn := fun _ => fun
  | [d] => { results := [.lit (.bool true)], args := [d] }
  | _ => none }
def weldOnceRow : OpenClaim := { program := "ytkefjgfcbcpcbaa", sum := "5765dbd9f411e9e745f9bcf9c13f795a6b3b852297f3c84ee9b98e502d619a17", func := "additive/additivelaw09.WeldOnce", spec := "weldOnce", unfollowed := true, recurses := true, plainKeys := false, apart := false }
def WeldOnceSaid : Prop := weldOnceRow.holds Try.pinned (OpenSpec.ofChange weldOnceSpec)

/-- ITS FALSE NEIGHBOUR: 'it returns false'. Refute it at one input. -/
def weldOnceWrong : ChangeSpec := { name := "weldOnce", fn := fun _ => fun
  | [d] => { results := [.lit (.bool false)], args := [d] }
  | _ => none }
def WeldOnceWrongFalsely : Prop := weldOnceRow.holds Try.pinned (OpenSpec.ofChange weldOnceWrong)

/- THE SECOND FORM. 'bulk': how many values and letters a reading holds, each counted each time it is reached (what is shared counts as often as it is met; a slice's spare places count too). A statement '..UptoSaid' is the law's where the arguments, and the package variables that the reading takes, are together of bulk at most 1048576: NARROWER than '..Said'. Prove '..Said' where nothing that the law and all that it calls make is longer than what came in: it says more and counts as full. Else prove '..UptoSaid'. A law counts once. -/
mutual
def uptoBulk {H : Type} : DataW H → Nat
  | .lit (.string bytes) => bytes.length + 1
  | .lit _ => 1
  | .nil => 1
  | .ptr d => uptoBulk d + 1
  | .slice elems spare => uptoBulkAll elems + uptoBulkAll spare + 1
  | .agg parts => uptoBulkAll parts + 1
  | .iface _ d => uptoBulk d + 1
  | .map entries => uptoBulkEntries entries + 1
  | .held _ => 1
def uptoBulkAll {H : Type} : List (DataW H) → Nat
  | [] => 0
  | d :: r => uptoBulk d + uptoBulkAll r
def uptoBulkEntries {H : Type} : List (Lit × DataW H) → Nat
  | [] => 0
  | x :: r => uptoBulkEntry x + uptoBulkEntries r
def uptoBulkEntry {H : Type} : Lit × DataW H → Nat
  | (.string bytes, d) => bytes.length + uptoBulk d + 1
  | (_, d) => uptoBulk d + 1
 end
def uptoSmall : (H : Type) → List (DataW H) → Bool := fun _ ds => decide (uptoBulkAll ds ≤ 1048576)
def OpenSpec.upto (s : _root_.Go.ChangeSpec) : _root_.Go.OpenSpec := { _root_.Go.OpenSpec.ofChange s with cond := some uptoSmall }

/-- 'additivelaw09.WeldMerges', WHERE WHAT IT READS IS OF BULK AT MOST 1048576: true; the input reads as it did. -/
def weldMergesUptoRow : OpenClaim := { program := "ytkefjgfcbcpcbaa", sum := "5765dbd9f411e9e745f9bcf9c13f795a6b3b852297f3c84ee9b98e502d619a17", func := "additive/additivelaw09.WeldMerges", spec := "weldMerges", unfollowed := true, recurses := true, plainKeys := false, apart := false, narrowed := true }
def WeldMergesUptoSaid : Prop := weldMergesUptoRow.holds Try.pinned (OpenSpec.upto weldMergesSpec)

/-- 'additivelaw09.WeldKeeps', WHERE WHAT IT READS IS OF BULK AT MOST 1048576: true; the input reads as it did. -/
def weldKeepsUptoRow : OpenClaim := { program := "ytkefjgfcbcpcbaa", sum := "5765dbd9f411e9e745f9bcf9c13f795a6b3b852297f3c84ee9b98e502d619a17", func := "additive/additivelaw09.WeldKeeps", spec := "weldKeeps", unfollowed := true, recurses := true, plainKeys := false, apart := false, narrowed := true }
def WeldKeepsUptoSaid : Prop := weldKeepsUptoRow.holds Try.pinned (OpenSpec.upto weldKeepsSpec)

/-- 'additivelaw09.WeldFirst', WHERE WHAT IT READS IS OF BULK AT MOST 1048576: true; the input reads as it did. -/
def weldFirstUptoRow : OpenClaim := { program := "ytkefjgfcbcpcbaa", sum := "5765dbd9f411e9e745f9bcf9c13f795a6b3b852297f3c84ee9b98e502d619a17", func := "additive/additivelaw09.WeldFirst", spec := "weldFirst", unfollowed := true, recurses := true, plainKeys := false, apart := false, narrowed := true }
def WeldFirstUptoSaid : Prop := weldFirstUptoRow.holds Try.pinned (OpenSpec.upto weldFirstSpec)

/-- 'additivelaw09.WeldCleans', WHERE WHAT IT READS IS OF BULK AT MOST 1048576: true; the input reads as it did. -/
def weldCleansUptoRow : OpenClaim := { program := "ytkefjgfcbcpcbaa", sum := "5765dbd9f411e9e745f9bcf9c13f795a6b3b852297f3c84ee9b98e502d619a17", func := "additive/additivelaw09.WeldCleans", spec := "weldCleans", unfollowed := true, recurses := true, plainKeys := false, apart := false, narrowed := true }
def WeldCleansUptoSaid : Prop := weldCleansUptoRow.holds Try.pinned (OpenSpec.upto weldCleansSpec)

/-- 'additivelaw09.WeldOnce', WHERE WHAT IT READS IS OF BULK AT MOST 1048576: true; the input reads as it did. -/
def weldOnceUptoRow : OpenClaim := { program := "ytkefjgfcbcpcbaa", sum := "5765dbd9f411e9e745f9bcf9c13f795a6b3b852297f3c84ee9b98e502d619a17", func := "additive/additivelaw09.WeldOnce", spec := "weldOnce", unfollowed := true, recurses := true, plainKeys := false, apart := false, narrowed := true }
def WeldOnceUptoSaid : Prop := weldOnceUptoRow.holds Try.pinned (OpenSpec.upto weldOnceSpec)

end Rows
end Go.Proofs.Ytkefjgfcbcpcbaa
