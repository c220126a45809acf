/-
  No cell of these rows narrows 'for every input' (looked for: loops, veiled, ifaces, maps, wideKeys, modest, calm, conditions, laid).
  DERIVED. THE GIVEN ROWS OF THIS SEAT. 7 by the template 'for every input the law returns true; each argument reads behind the call as it read before'; 0 by the template 'total and deterministic' (their statements: YtmgfinibgfjmpaaTotals.lean).
  GIVEN WITH THE SEED: the statements are not yours to turn. If you find one false, say at which input.
  Laid BY PROGRAM, IN A SANDBOX (cutbox-rows.mjs): the forced cells as the released guide's own fill.sh prints them over the translation 74dc5ac62b44c929… (all of the seat's roots in one cut). By AI agents, Wed Nov 11 2026. No macro, syntax, notation, axiom, sorry.
-/
import Derived.Test.YtmgfinibgfjmpaaChecked
import GoSem.Claim
import GoSem.ClaimJoined
import GoSem.ClaimMapViews
import Derived.JoinedTies
import Derived.KernelRfl
namespace Go.Proofs.Ytmgfinibgfjmpaa
/- THE CELL 'sum', in the pinned program and in every row, IS THE sha256 OF THE DUMP (.gsa) THAT YtmgfinibgfjmpaaProg.lean LOADS. Nothing in Lean hashes anything: it is a label: what it is worth is what the hold of that sum in a sandbox is worth. -/
noncomputable def Try.pinned : Pinned := { name := "ytmgfinibgfjmpaa", sum := "74dc5ac62b44c929c2913dfe7141a11e8ec8bf92298c7dafe04754cb11a9b93c", checked := Try.checked }
namespace Rows
def none {H : Type} : Left H := { results := [], args := [] }

/-- 'additivelaw11.OrientChecks': WHATEVER THE INPUT: true; the input reads as it did. -/
def orientChecksSpec : ChangeSpec := { name := "orientChecks", fn := fun _ => fun
  | [d] => { results := [.lit (.bool true)], args := [d] }
  | _ => none }
def orientChecksRow : OpenClaim := { program := "ytmgfinibgfjmpaa", sum := "74dc5ac62b44c929c2913dfe7141a11e8ec8bf92298c7dafe04754cb11a9b93c", func := "additive/additivelaw11.OrientChecks", spec := "orientChecks", unfollowed := true, recurses := true, plainKeys := false, apart := false }
def OrientChecksSaid : Prop := orientChecksRow.holds Try.pinned (OpenSpec.ofChange orientChecksSpec)

/-- ITS FALSE NEIGHBOUR: 'it returns false'. Refute it at one input. -/
def orientChecksWrong : ChangeSpec := { name := "orientChecks", fn := fun _ => fun
  | [d] => { results := [.lit (.bool false)], args := [d] }
  | _ => none }
def OrientChecksWrongFalsely : Prop := orientChecksRow.holds Try.pinned (OpenSpec.ofChange orientChecksWrong)

/-- 'additivelaw11.OrientResults': WHATEVER THE INPUT: true; the input reads as it did. -/
def orientResultsSpec : ChangeSpec := { name := "orientResults", fn := fun _ => fun
  | [d] => { results := [.lit (.bool true)], args := [d] }
  | _ => none }
def orientResultsRow : OpenClaim := { program := "ytmgfinibgfjmpaa", sum := "74dc5ac62b44c929c2913dfe7141a11e8ec8bf92298c7dafe04754cb11a9b93c", func := "additive/additivelaw11.OrientResults", spec := "orientResults", unfollowed := true, recurses := true, plainKeys := false, apart := false }
def OrientResultsSaid : Prop := orientResultsRow.holds Try.pinned (OpenSpec.ofChange orientResultsSpec)

/-- ITS FALSE NEIGHBOUR: 'it returns false'. Refute it at one input. -/
def orientResultsWrong : ChangeSpec := { name := "orientResults", fn := fun _ => fun
  | [d] => { results := [.lit (.bool false)], args := [d] }
  | _ => none }
def OrientResultsWrongFalsely : Prop := orientResultsRow.holds Try.pinned (OpenSpec.ofChange orientResultsWrong)

/-- 'additivelaw11.OrientImpossible': WHATEVER THE INPUT: true; the input reads as it did. -/
def orientImpossibleSpec : ChangeSpec := { name := "orientImpossible", fn := fun _ => fun
  | [d] => { results := [.lit (.bool true)], args := [d] }
  | _ => none }
def orientImpossibleRow : OpenClaim := { program := "ytmgfinibgfjmpaa", sum := "74dc5ac62b44c929c2913dfe7141a11e8ec8bf92298c7dafe04754cb11a9b93c", func := "additive/additivelaw11.OrientImpossible", spec := "orientImpossible", unfollowed := true, recurses := true, plainKeys := false, apart := false }
def OrientImpossibleSaid : Prop := orientImpossibleRow.holds Try.pinned (OpenSpec.ofChange orientImpossibleSpec)

/-- ITS FALSE NEIGHBOUR: 'it returns false'. Refute it at one input. -/
def orientImpossibleWrong : ChangeSpec := { name := "orientImpossible", fn := fun _ => fun
  | [d] => { results := [.lit (.bool false)], args := [d] }
  | _ => none }
def OrientImpossibleWrongFalsely : Prop := orientImpossibleRow.holds Try.pinned (OpenSpec.ofChange orientImpossibleWrong)

/-- 'additivelaw11.OrientCoherent': WHATEVER THE INPUT: true; the input reads as it did. -/
def orientCoherentSpec : ChangeSpec := { name := "orientCoherent", fn := fun _ => fun
  | [d] => { results := [.lit (.bool true)], args := [d] }
  | _ => none }
def orientCoherentRow : OpenClaim := { program := "ytmgfinibgfjmpaa", sum := "74dc5ac62b44c929c2913dfe7141a11e8ec8bf92298c7dafe04754cb11a9b93c", func := "additive/additivelaw11.OrientCoherent", spec := "orientCoherent", unfollowed := true, recurses := true, plainKeys := false, apart := false }
def OrientCoherentSaid : Prop := orientCoherentRow.holds Try.pinned (OpenSpec.ofChange orientCoherentSpec)

/-- ITS FALSE NEIGHBOUR: 'it returns false'. Refute it at one input. -/
def orientCoherentWrong : ChangeSpec := { name := "orientCoherent", fn := fun _ => fun
  | [d] => { results := [.lit (.bool false)], args := [d] }
  | _ => none }
def OrientCoherentWrongFalsely : Prop := orientCoherentRow.holds Try.pinned (OpenSpec.ofChange orientCoherentWrong)

/-- 'additivelaw11.OrientFlips': WHATEVER THE INPUT: true; the input reads as it did. -/
def orientFlipsSpec : ChangeSpec := { name := "orientFlips", fn := fun _ => fun
  | [d1, d2] => { results := [.lit (.bool true)], args := [d1, d2] }
  | _ => none }
def orientFlipsRow : OpenClaim := { program := "ytmgfinibgfjmpaa", sum := "74dc5ac62b44c929c2913dfe7141a11e8ec8bf92298c7dafe04754cb11a9b93c", func := "additive/additivelaw11.OrientFlips", spec := "orientFlips", unfollowed := true, recurses := true, plainKeys := false, apart := false }
def OrientFlipsSaid : Prop := orientFlipsRow.holds Try.pinned (OpenSpec.ofChange orientFlipsSpec)

/-- ITS FALSE NEIGHBOUR: 'it returns false'. Refute it at one input. -/
def orientFlipsWrong : ChangeSpec := { name := "orientFlips", fn := fun _ => fun
  | [d1, d2] => { results := [.lit (.bool false)], args := [d1, d2] }
  | _ => none }
def OrientFlipsWrongFalsely : Prop := orientFlipsRow.holds Try.pinned (OpenSpec.ofChange orientFlipsWrong)

/-- 'additivelaw11.OrientOutward': WHATEVER THE INPUT: true; the input reads as it did. -/
def orientOutwardSpec : ChangeSpec := { name := "orientOutward", fn := fun _ => fun
  | [d] => { results := [.lit (.bool true)], args := [d] }
  | _ => none }
def orientOutwardRow : OpenClaim := { program := "ytmgfinibgfjmpaa", sum := "74dc5ac62b44c929c2913dfe7141a11e8ec8bf92298c7dafe04754cb11a9b93c", func := "additive/additivelaw11.OrientOutward", spec := "orientOutward", unfollowed := true, recurses := true, plainKeys := false, apart := false }
def OrientOutwardSaid : Prop := orientOutwardRow.holds Try.pinned (OpenSpec.ofChange orientOutwardSpec)

/-- ITS FALSE NEIGHBOUR: 'it returns false'. Refute it at one input. -/
def orientOutwardWrong : ChangeSpec := { name := "orientOutward", fn := fun _ => fun
  | [d] => { results := [.lit (.bool false)], args := [d] }
  | _ => none }
def OrientOutwardWrongFalsely : Prop := orientOutwardRow.holds Try.pinned (OpenSpec.ofChange orientOutwardWrong)

/-- 'additivelaw11.OrientVolumes': WHATEVER THE INPUT: true; the input reads as it did. -/
def orientVolumesSpec : ChangeSpec := { name := "orientVolumes", fn := fun _ => fun
  | [d] => { results := [.lit (.bool true)], args := [d] }
  | _ => none }
def orientVolumesRow : OpenClaim := { program := "ytmgfinibgfjmpaa", sum := "74dc5ac62b44c929c2913dfe7141a11e8ec8bf92298c7dafe04754cb11a9b93c", func := "additive/additivelaw11.OrientVolumes", spec := "orientVolumes", unfollowed := true, recurses := true, plainKeys := false, apart := false }
def OrientVolumesSaid : Prop := orientVolumesRow.holds Try.pinned (OpenSpec.ofChange orientVolumesSpec)

/-- ITS FALSE NEIGHBOUR: 'it returns false'. Refute it at one input. -/
def orientVolumesWrong : ChangeSpec := { name := "orientVolumes", fn := fun _ => fun
  | [d] => { results := [.lit (.bool false)], args := [d] }
  | _ => none }
def OrientVolumesWrongFalsely : Prop := orientVolumesRow.holds Try.pinned (OpenSpec.ofChange orientVolumesWrong)

/- THE SECOND FORM. 'bulk': how many values and letters a reading holds, each counted each time it is reached (what is shared counts as often as it is met; a slice's spare places count too). A statement '..UptoSaid' is the law's where the arguments, and the package variables that the reading takes, are together of bulk at most 1048576: NARROWER than '..Said'. Prove '..Said' where nothing that the law and all that it calls make is longer than what came in: it says more and counts as full. Else prove '..UptoSaid'. A law counts once. -/
mutual
def uptoBulk {H : Type} : DataW H → Nat
  | .lit (.string bytes) => bytes.length + 1
  | .lit _ => 1
  | .nil => 1
  | .ptr d => uptoBulk d + 1
  | .slice elems spare => uptoBulkAll elems + uptoBulkAll spare + 1
  | .agg parts => uptoBulkAll parts + 1
  | .iface _ d => uptoBulk d + 1
  | .map entries => uptoBulkEntries entries + 1
  | .held _ => 1
def uptoBulkAll {H : Type} : List (DataW H) → Nat
  | [] => 0
  | d :: r => uptoBulk d + uptoBulkAll r
def uptoBulkEntries {H : Type} : List (Lit × DataW H) → Nat
  | [] => 0
  | x :: r => uptoBulkEntry x + uptoBulkEntries r
def uptoBulkEntry {H : Type} : Lit × DataW H → Nat
  | (.string bytes, d) => bytes.length + uptoBulk d + 1
  | (_, d) => uptoBulk d + 1
 end
def uptoSmall : (H : Type) → List (DataW H) → Bool := fun _ ds => decide (uptoBulkAll ds ≤ 1048576)
def OpenSpec.upto (s : _root_.Go.ChangeSpec) : _root_.Go.OpenSpec := { _root_.Go.OpenSpec.ofChange s with cond := some uptoSmall }

/-- 'additivelaw11.OrientChecks', WHERE WHAT IT READS IS OF BULK AT MOST 1048576: true; the input reads as it did. -/
def orientChecksUptoRow : OpenClaim := { program := "ytmgfinibgfjmpaa", sum := "74dc5ac62b44c929c2913dfe7141a11e8ec8bf92298c7dafe04754cb11a9b93c", func := "additive/additivelaw11.OrientChecks", spec := "orientChecks", unfollowed := true, recurses := true, plainKeys := false, apart := false, narrowed := true }
def OrientChecksUptoSaid : Prop := orientChecksUptoRow.holds Try.pinned (OpenSpec.upto orientChecksSpec)

/-- 'additivelaw11.OrientResults', WHERE WHAT IT READS IS OF BULK AT MOST 1048576: true; the input reads as it did. -/
def orientResultsUptoRow : OpenClaim := { program := "ytmgfinibgfjmpaa", sum := "74dc5ac62b44c929c2913dfe7141a11e8ec8bf92298c7dafe04754cb11a9b93c", func := "additive/additivelaw11.OrientResults", spec := "orientResults", unfollowed := true, recurses := true, plainKeys := false, apart := false, narrowed := true }
def OrientResultsUptoSaid : Prop := orientResultsUptoRow.holds Try.pinned (OpenSpec.upto orientResultsSpec)

/-- 'additivelaw11.OrientImpossible', WHERE WHAT IT READS IS OF BULK AT MOST 1048576: true; the input reads as it did. -/
def orientImpossibleUptoRow : OpenClaim := { program := "ytmgfinibgfjmpaa", sum := "74dc5ac62b44c929c2913dfe7141a11e8ec8bf92298c7dafe04754cb11a9b93c", func := "additive/additivelaw11.OrientImpossible", spec := "orientImpossible", unfollowed := true, recurses := true, plainKeys := false, apart := false, narrowed := true }
def OrientImpossibleUptoSaid : Prop := orientImpossibleUptoRow.holds Try.pinned (OpenSpec.upto orientImpossibleSpec)

/-- 'additivelaw11.OrientCoherent', WHERE WHAT IT READS IS OF BULK AT MOST 1048576: true; the input reads as it did. -/
def orientCoherentUptoRow : OpenClaim := { program := "ytmgfinibgfjmpaa", sum := "74dc5ac62b44c929c2913dfe7141a11e8ec8bf92298c7dafe04754cb11a9b93c", func := "additive/additivelaw11.OrientCoherent", spec := "orientCoherent", unfollowed := true, recurses := true, plainKeys := false, apart := false, narrowed := true }
def OrientCoherentUptoSaid : Prop := orientCoherentUptoRow.holds Try.pinned (OpenSpec.upto orientCoherentSpec)

/-- 'additivelaw11.OrientFlips', WHERE WHAT IT READS IS OF BULK AT MOST 1048576: true; the input reads as it did. -/
def orientFlipsUptoRow : OpenClaim := { program := "ytmgfinibgfjmpaa", sum := "74dc5ac62b44c929c2913dfe7141a11e8ec8bf92298c7dafe04754cb11a9b93c", func := "additive/additivelaw11.OrientFlips", spec := "orientFlips", unfollowed := true, recurses := true, plainKeys := false, apart := false, narrowed := true }
def OrientFlipsUptoSaid : Prop := orientFlipsUptoRow.holds Try.pinned (OpenSpec.upto orientFlipsSpec)

/-- 'additivelaw11.OrientOutward', WHERE WHAT IT READS IS OF BULK AT MOST 1048576: true; the input reads as it did. -/
def orientOutwardUptoRow : OpenClaim := { program := "ytmgfinibgfjmpaa", sum := "74dc5ac62b44c929c2913dfe7141a11e8ec8bf92298c7dafe04754cb11a9b93c", func := "additive/additivelaw11.OrientOutward", spec := "orientOutward", unfollowed := true, recurses := true, plainKeys := false, apart := false, narrowed := true }
def OrientOutwardUptoSaid : Prop := orientOutwardUptoRow.holds Try.pinned (OpenSpec.upto orientOutwardSpec)

/-- 'additivelaw11.OrientVolumes', WHERE WHAT IT READS IS OF BULK AT MOST 1048576: true; the input reads as it did. -/
def orientVolumesUptoRow : OpenClaim := { program := "ytmgfinibgfjmpaa", sum := "74dc5ac62b44c929c2913dfe7141a11e8ec8bf92298c7dafe04754cb11a9b93c", func := "additive/additivelaw11.OrientVolumes", spec := "orientVolumes", unfollowed := true, recurses := true, plainKeys := false, apart := false, narrowed := true }
def OrientVolumesUptoSaid : Prop := orientVolumesUptoRow.holds Try.pinned (OpenSpec.upto orientVolumesSpec)

end Rows
end Go.Proofs.Ytmgfinibgfjmpaa
