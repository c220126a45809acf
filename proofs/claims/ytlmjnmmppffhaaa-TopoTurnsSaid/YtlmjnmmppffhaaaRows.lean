/-
  No cell of these rows narrows 'for every input' (looked for: loops, veiled, ifaces, maps, wideKeys, modest, calm, conditions, laid).
  DERIVED. THE GIVEN ROWS OF THIS SEAT. 6 by the template 'for every input the law returns true; each argument reads behind the call as it read before'; 0 by the template 'total and deterministic' (their statements: YtlmjnmmppffhaaaTotals.lean).
  GIVEN WITH THE SEED: the statements are not yours to turn. If you find one false, say at which input.
  Laid BY PROGRAM, IN A SANDBOX (cutbox-rows.mjs): the forced cells as the released guide's own fill.sh prints them over the translation 8ffce5e964bcca3f… (all of the seat's roots in one cut). By AI agents, Wed Nov 11 2026. No macro, syntax, notation, axiom, sorry.
-/
import Derived.Test.YtlmjnmmppffhaaaChecked
import GoSem.Claim
import GoSem.ClaimJoined
import GoSem.ClaimMapViews
import Derived.JoinedTies
import Derived.KernelRfl
namespace Go.Proofs.Ytlmjnmmppffhaaa
/- THE CELL 'sum', in the pinned program and in every row, IS THE sha256 OF THE DUMP (.gsa) THAT YtlmjnmmppffhaaaProg.lean LOADS. Nothing in Lean hashes anything: it is a label: what it is worth is what the hold of that sum in a sandbox is worth. -/
noncomputable def Try.pinned : Pinned := { name := "ytlmjnmmppffhaaa", sum := "8ffce5e964bcca3f65aa59fc38b362489f8cd93017e32a935a587d6a46a1a3ec", checked := Try.checked }
namespace Rows
def none {H : Type} : Left H := { results := [], args := [] }

/-- 'additivelaw10.TopoEdges': WHATEVER THE INPUT: true; the input reads as it did. -/
def topoEdgesSpec : ChangeSpec := { name := "topoEdges", fn := fun _ => fun
  | [d1, d2] => { results := [.lit (.bool true)], args := [d1, d2] }
  | _ => none }
def topoEdgesRow : OpenClaim := { program := "ytlmjnmmppffhaaa", sum := "8ffce5e964bcca3f65aa59fc38b362489f8cd93017e32a935a587d6a46a1a3ec", func := "additive/additivelaw10.TopoEdges", spec := "topoEdges", unfollowed := true, recurses := true, plainKeys := false, apart := false }
def TopoEdgesSaid : Prop := topoEdgesRow.holds Try.pinned (OpenSpec.ofChange topoEdgesSpec)

/-- ITS FALSE NEIGHBOUR: 'it returns false'. Refute it at one input. -/
def topoEdgesWrong : ChangeSpec := { name := "topoEdges", fn := fun _ => fun
  | [d1, d2] => { results := [.lit (.bool false)], args := [d1, d2] }
  | _ => none }
def TopoEdgesWrongFalsely : Prop := topoEdgesRow.holds Try.pinned (OpenSpec.ofChange topoEdgesWrong)

/-- 'additivelaw10.TopoBounds': WHATEVER THE INPUT: true; the input reads as it did. -/
def topoBoundsSpec : ChangeSpec := { name := "topoBounds", fn := fun _ => fun
  | [d] => { results := [.lit (.bool true)], args := [d] }
  | _ => none }
def topoBoundsRow : OpenClaim := { program := "ytlmjnmmppffhaaa", sum := "8ffce5e964bcca3f65aa59fc38b362489f8cd93017e32a935a587d6a46a1a3ec", func := "additive/additivelaw10.TopoBounds", spec := "topoBounds", unfollowed := true, recurses := true, plainKeys := false, apart := false }
def TopoBoundsSaid : Prop := topoBoundsRow.holds Try.pinned (OpenSpec.ofChange topoBoundsSpec)

/-- ITS FALSE NEIGHBOUR: 'it returns false'. Refute it at one input. -/
def topoBoundsWrong : ChangeSpec := { name := "topoBounds", fn := fun _ => fun
  | [d] => { results := [.lit (.bool false)], args := [d] }
  | _ => none }
def TopoBoundsWrongFalsely : Prop := topoBoundsRow.holds Try.pinned (OpenSpec.ofChange topoBoundsWrong)

/-- 'additivelaw10.TopoLoops': WHATEVER THE INPUT: true; the input reads as it did. -/
def topoLoopsSpec : ChangeSpec := { name := "topoLoops", fn := fun _ => fun
  | [d] => { results := [.lit (.bool true)], args := [d] }
  | _ => none }
def topoLoopsRow : OpenClaim := { program := "ytlmjnmmppffhaaa", sum := "8ffce5e964bcca3f65aa59fc38b362489f8cd93017e32a935a587d6a46a1a3ec", func := "additive/additivelaw10.TopoLoops", spec := "topoLoops", unfollowed := true, recurses := true, plainKeys := false, apart := false }
def TopoLoopsSaid : Prop := topoLoopsRow.holds Try.pinned (OpenSpec.ofChange topoLoopsSpec)

/-- ITS FALSE NEIGHBOUR: 'it returns false'. Refute it at one input. -/
def topoLoopsWrong : ChangeSpec := { name := "topoLoops", fn := fun _ => fun
  | [d] => { results := [.lit (.bool false)], args := [d] }
  | _ => none }
def TopoLoopsWrongFalsely : Prop := topoLoopsRow.holds Try.pinned (OpenSpec.ofChange topoLoopsWrong)

/-- 'additivelaw10.TopoShells': WHATEVER THE INPUT: true; the input reads as it did. -/
def topoShellsSpec : ChangeSpec := { name := "topoShells", fn := fun _ => fun
  | [d] => { results := [.lit (.bool true)], args := [d] }
  | _ => none }
def topoShellsRow : OpenClaim := { program := "ytlmjnmmppffhaaa", sum := "8ffce5e964bcca3f65aa59fc38b362489f8cd93017e32a935a587d6a46a1a3ec", func := "additive/additivelaw10.TopoShells", spec := "topoShells", unfollowed := true, recurses := true, plainKeys := false, apart := false }
def TopoShellsSaid : Prop := topoShellsRow.holds Try.pinned (OpenSpec.ofChange topoShellsSpec)

/-- ITS FALSE NEIGHBOUR: 'it returns false'. Refute it at one input. -/
def topoShellsWrong : ChangeSpec := { name := "topoShells", fn := fun _ => fun
  | [d] => { results := [.lit (.bool false)], args := [d] }
  | _ => none }
def TopoShellsWrongFalsely : Prop := topoShellsRow.holds Try.pinned (OpenSpec.ofChange topoShellsWrong)

/-- 'additivelaw10.TopoTurns': WHATEVER THE INPUT: true; the input reads as it did. -/
def topoTurnsSpec : ChangeSpec := { name := "topoTurns", fn := fun _ => fun
  | [d1, d2] => { results := [.lit (.bool true)], args := [d1, d2] }
  | _ => none }
def topoTurnsRow : OpenClaim := { program := "ytlmjnmmppffhaaa", sum := "8ffce5e964bcca3f65aa59fc38b362489f8cd93017e32a935a587d6a46a1a3ec", func := "additive/additivelaw10.TopoTurns", spec := "topoTurns", unfollowed := true, recurses := true, plainKeys := false, apart := false }
def TopoTurnsSaid : Prop := topoTurnsRow.holds Try.pinned (OpenSpec.ofChange topoTurnsSpec)

/-- ITS FALSE NEIGHBOUR: 'it returns false'. Refute it at one input. -/
def topoTurnsWrong : ChangeSpec := { name := "topoTurns", fn := fun _ => fun
  | [d1, d2] => { results := [.lit (.bool false)], args := [d1, d2] }
  | _ => none }
def TopoTurnsWrongFalsely : Prop := topoTurnsRow.holds Try.pinned (OpenSpec.ofChange topoTurnsWrong)

/-- 'additivelaw10.TopoEuler': WHATEVER THE INPUT: true; the input reads as it did. -/
def topoEulerSpec : ChangeSpec := { name := "topoEuler", fn := fun _ => fun
  | [d1, d2] => { results := [.lit (.bool true)], args := [d1, d2] }
  | _ => none }
def topoEulerRow : OpenClaim := { program := "ytlmjnmmppffhaaa", sum := "8ffce5e964bcca3f65aa59fc38b362489f8cd93017e32a935a587d6a46a1a3ec", func := "additive/additivelaw10.TopoEuler", spec := "topoEuler", unfollowed := true, recurses := true, plainKeys := false, apart := false }
def TopoEulerSaid : Prop := topoEulerRow.holds Try.pinned (OpenSpec.ofChange topoEulerSpec)

/-- ITS FALSE NEIGHBOUR: 'it returns false'. Refute it at one input. -/
def topoEulerWrong : ChangeSpec := { name := "topoEuler", fn := fun _ => fun
  | [d1, d2] => { results := [.lit (.bool false)], args := [d1, d2] }
  | _ => none }
def TopoEulerWrongFalsely : Prop := topoEulerRow.holds Try.pinned (OpenSpec.ofChange topoEulerWrong)

/- THE SECOND FORM. 'bulk': how many values and letters a reading holds, each counted each time it is reached (what is shared counts as often as it is met; a slice's spare places count too). A statement '..UptoSaid' is the law's where the arguments, and the package variables that the reading takes, are together of bulk at most 1048576: NARROWER than '..Said'. Prove '..Said' where nothing that the law and all that it calls make is longer than what came in: it says more and counts as full. Else prove '..UptoSaid'. A law counts once. -/
mutual
def uptoBulk {H : Type} : DataW H → Nat
  | .lit (.string bytes) => bytes.length + 1
  | .lit _ => 1
  | .nil => 1
  | .ptr d => uptoBulk d + 1
  | .slice elems spare => uptoBulkAll elems + uptoBulkAll spare + 1
  | .agg parts => uptoBulkAll parts + 1
  | .iface _ d => uptoBulk d + 1
  | .map entries => uptoBulkEntries entries + 1
  | .held _ => 1
def uptoBulkAll {H : Type} : List (DataW H) → Nat
  | [] => 0
  | d :: r => uptoBulk d + uptoBulkAll r
def uptoBulkEntries {H : Type} : List (Lit × DataW H) → Nat
  | [] => 0
  | x :: r => uptoBulkEntry x + uptoBulkEntries r
def uptoBulkEntry {H : Type} : Lit × DataW H → Nat
  | (.string bytes, d) => bytes.length + uptoBulk d + 1
  | (_, d) => uptoBulk d + 1
 end
def uptoSmall : (H : Type) → List (DataW H) → Bool := fun _ ds => decide (uptoBulkAll ds ≤ 1048576)
def OpenSpec.upto (s : _root_.Go.ChangeSpec) : _root_.Go.OpenSpec := { _root_.Go.OpenSpec.ofChange s with cond := some uptoSmall }

/-- 'additivelaw10.TopoEdges', WHERE WHAT IT READS IS OF BULK AT MOST 1048576: true; the input reads as it did. -/
def topoEdgesUptoRow : OpenClaim := { program := "ytlmjnmmppffhaaa", sum := "8ffce5e964bcca3f65aa59fc38b362489f8cd93017e32a935a587d6a46a1a3ec", func := "additive/additivelaw10.TopoEdges", spec := "topoEdges", unfollowed := true, recurses := true, plainKeys := false, apart := false, narrowed := true }
def TopoEdgesUptoSaid : Prop := topoEdgesUptoRow.holds Try.pinned (OpenSpec.upto topoEdgesSpec)

/-- 'additivelaw10.TopoBounds', WHERE WHAT IT READS IS OF BULK AT MOST 1048576: true; the input reads as it did. -/
def topoBoundsUptoRow : OpenClaim := { program := "ytlmjnmmppffhaaa", sum := "8ffce5e964bcca3f65aa59fc38b362489f8cd93017e32a935a587d6a46a1a3ec", func := "additive/additivelaw10.TopoBounds", spec := "topoBounds", unfollowed := true, recurses := true, plainKeys := false, apart := false, narrowed := true }
def TopoBoundsUptoSaid : Prop := topoBoundsUptoRow.holds Try.pinned (OpenSpec.upto topoBoundsSpec)

/-- 'additivelaw10.TopoLoops', WHERE WHAT IT READS IS OF BULK AT MOST 1048576: true; the input reads as it did. -/
def topoLoopsUptoRow : OpenClaim := { program := "ytlmjnmmppffhaaa", sum := "8ffce5e964bcca3f65aa59fc38b362489f8cd93017e32a935a587d6a46a1a3ec", func := "additive/additivelaw10.TopoLoops", spec := "topoLoops", unfollowed := true, recurses := true, plainKeys := false, apart := false, narrowed := true }
def TopoLoopsUptoSaid : Prop := topoLoopsUptoRow.holds Try.pinned (OpenSpec.upto topoLoopsSpec)

/-- 'additivelaw10.TopoShells', WHERE WHAT IT READS IS OF BULK AT MOST 1048576: true; the input reads as it did. -/
def topoShellsUptoRow : OpenClaim := { program := "ytlmjnmmppffhaaa", sum := "8ffce5e964bcca3f65aa59fc38b362489f8cd93017e32a935a587d6a46a1a3ec", func := "additive/additivelaw10.TopoShells", spec := "topoShells", unfollowed := true, recurses := true, plainKeys := false, apart := false, narrowed := true }
def TopoShellsUptoSaid : Prop := topoShellsUptoRow.holds Try.pinned (OpenSpec.upto topoShellsSpec)

/-- 'additivelaw10.TopoTurns', WHERE WHAT IT READS IS OF BULK AT MOST 1048576: true; the input reads as it did. -/
def topoTurnsUptoRow : OpenClaim := { program := "ytlmjnmmppffhaaa", sum := "8ffce5e964bcca3f65aa59fc38b362489f8cd93017e32a935a587d6a46a1a3ec", func := "additive/additivelaw10.TopoTurns", spec := "topoTurns", unfollowed := true, recurses := true, plainKeys := false, apart := false, narrowed := true }
def TopoTurnsUptoSaid : Prop := topoTurnsUptoRow.holds Try.pinned (OpenSpec.upto topoTurnsSpec)

/-- 'additivelaw10.TopoEuler', WHERE WHAT IT READS IS OF BULK AT MOST 1048576: true; the input reads as it did. -/
def topoEulerUptoRow : OpenClaim := { program := "ytlmjnmmppffhaaa", sum := "8ffce5e964bcca3f65aa59fc38b362489f8cd93017e32a935a587d6a46a1a3ec", func := "additive/additivelaw10.TopoEuler", spec := "topoEuler", unfollowed := true, recurses := true, plainKeys := false, apart := false, narrowed := true }
def TopoEulerUptoSaid : Prop := topoEulerUptoRow.holds Try.pinned (OpenSpec.upto topoEulerSpec)

end Rows
end Go.Proofs.Ytlmjnmmppffhaaa
