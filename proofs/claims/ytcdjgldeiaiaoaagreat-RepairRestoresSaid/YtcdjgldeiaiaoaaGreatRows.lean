/-
  No cell of these rows narrows 'for every input' (looked for: loops, veiled, ifaces, maps, wideKeys, modest, calm, conditions, laid).
  DERIVED. THE GIVEN ROWS OF THIS SEAT. 6 by the template 'for every input the law returns true; each argument reads behind the call as it read before'; 0 by the template 'total and deterministic' (their statements: YtcdjgldeiaiaoaaGreatTotals.lean).
  GIVEN WITH THE SEED: the statements are not yours to turn. If you find one false, say at which input.
  Laid BY PROGRAM, IN A SANDBOX (cutbox-rows.mjs): the forced cells as the released guide's own fill.sh prints them over the translation 0bdb7f4766b3f962… (all of the seat's roots in one cut). By AI agents, Wed Nov 11 2026. No macro, syntax, notation, axiom, sorry.
-/
import Derived.Test.YtcdjgldeiaiaoaaGreatChecked
import GoSem.Claim
import GoSem.ClaimJoined
import GoSem.ClaimMapViews
import Derived.JoinedTies
import Derived.KernelRfl
namespace Go.Proofs.YtcdjgldeiaiaoaaGreat
/- THE CELL 'sum', in the pinned program and in every row, IS THE sha256 OF THE DUMP (.gsa) THAT YtcdjgldeiaiaoaaGreatProg.lean LOADS. Nothing in Lean hashes anything: it is a label: what it is worth is what the hold of that sum in a sandbox is worth. -/
noncomputable def Tryz.pinned : Pinned := { name := "ytcdjgldeiaiaoaagreat", sum := "0bdb7f4766b3f96283afd63a40a1f3667ca65889405a88a176761982abd0fe69", checked := Tryz.checked }
namespace Rows
def none {H : Type} : Left H := { results := [], args := [] }

/-- 'additivelaw14.RepairSound': WHATEVER THE INPUT: true; the input reads as it did. -/
def repairSoundSpec : ChangeSpec := { name := "repairSound", fn := fun _ => fun
  | [d] => { results := [.lit (.bool true)], args := [d] }
  | _ => none }
def repairSoundRow : OpenClaim := { program := "ytcdjgldeiaiaoaagreat", sum := "0bdb7f4766b3f96283afd63a40a1f3667ca65889405a88a176761982abd0fe69", func := "additive/additivelaw14.RepairSound", spec := "repairSound", unfollowed := true, recurses := true, plainKeys := false, apart := false }
def RepairSoundSaid : Prop := repairSoundRow.holds Tryz.pinned (OpenSpec.ofChange repairSoundSpec)

/-- ITS FALSE NEIGHBOUR: 'it returns false'. Refute it at one input. -/
def repairSoundWrong : ChangeSpec := { name := "repairSound", fn := fun _ => fun
  | [d] => { results := [.lit (.bool false)], args := [d] }
  | _ => none }
def RepairSoundWrongFalsely : Prop := repairSoundRow.holds Tryz.pinned (OpenSpec.ofChange repairSoundWrong)

/-- 'additivelaw14.RepairChecks': WHATEVER THE INPUT: true; the input reads as it did. -/
def repairChecksSpec : ChangeSpec := { name := "repairChecks", fn := fun _ => fun
  | [d] => { results := [.lit (.bool true)], args := [d] }
  | _ => none }
def repairChecksRow : OpenClaim := { program := "ytcdjgldeiaiaoaagreat", sum := "0bdb7f4766b3f96283afd63a40a1f3667ca65889405a88a176761982abd0fe69", func := "additive/additivelaw14.RepairChecks", spec := "repairChecks", unfollowed := true, recurses := true, plainKeys := false, apart := false }
def RepairChecksSaid : Prop := repairChecksRow.holds Tryz.pinned (OpenSpec.ofChange repairChecksSpec)

/-- ITS FALSE NEIGHBOUR: 'it returns false'. Refute it at one input. -/
def repairChecksWrong : ChangeSpec := { name := "repairChecks", fn := fun _ => fun
  | [d] => { results := [.lit (.bool false)], args := [d] }
  | _ => none }
def RepairChecksWrongFalsely : Prop := repairChecksRow.holds Tryz.pinned (OpenSpec.ofChange repairChecksWrong)

/-- 'additivelaw14.RepairRepairs': WHATEVER THE INPUT: true; the input reads as it did. -/
def repairRepairsSpec : ChangeSpec := { name := "repairRepairs", fn := fun _ => fun
  | [d] => { results := [.lit (.bool true)], args := [d] }
  | _ => none }
def repairRepairsRow : OpenClaim := { program := "ytcdjgldeiaiaoaagreat", sum := "0bdb7f4766b3f96283afd63a40a1f3667ca65889405a88a176761982abd0fe69", func := "additive/additivelaw14.RepairRepairs", spec := "repairRepairs", unfollowed := true, recurses := true, plainKeys := false, apart := false }
def RepairRepairsSaid : Prop := repairRepairsRow.holds Tryz.pinned (OpenSpec.ofChange repairRepairsSpec)

/-- ITS FALSE NEIGHBOUR: 'it returns false'. Refute it at one input. -/
def repairRepairsWrong : ChangeSpec := { name := "repairRepairs", fn := fun _ => fun
  | [d] => { results := [.lit (.bool false)], args := [d] }
  | _ => none }
def RepairRepairsWrongFalsely : Prop := repairRepairsRow.holds Tryz.pinned (OpenSpec.ofChange repairRepairsWrong)

/-- 'additivelaw14.RepairMoves': WHATEVER THE INPUT: true; the input reads as it did. -/
def repairMovesSpec : ChangeSpec := { name := "repairMoves", fn := fun _ => fun
  | [d1, d2] => { results := [.lit (.bool true)], args := [d1, d2] }
  | _ => none }
def repairMovesRow : OpenClaim := { program := "ytcdjgldeiaiaoaagreat", sum := "0bdb7f4766b3f96283afd63a40a1f3667ca65889405a88a176761982abd0fe69", func := "additive/additivelaw14.RepairMoves", spec := "repairMoves", unfollowed := true, recurses := true, plainKeys := false, apart := false }
def RepairMovesSaid : Prop := repairMovesRow.holds Tryz.pinned (OpenSpec.ofChange repairMovesSpec)

/-- ITS FALSE NEIGHBOUR: 'it returns false'. Refute it at one input. -/
def repairMovesWrong : ChangeSpec := { name := "repairMoves", fn := fun _ => fun
  | [d1, d2] => { results := [.lit (.bool false)], args := [d1, d2] }
  | _ => none }
def RepairMovesWrongFalsely : Prop := repairMovesRow.holds Tryz.pinned (OpenSpec.ofChange repairMovesWrong)

/-- 'additivelaw14.RepairApart': WHATEVER THE INPUT: true; the input reads as it did. -/
def repairApartSpec : ChangeSpec := { name := "repairApart", fn := fun _ => fun
  | [d] => { results := [.lit (.bool true)], args := [d] }
  | _ => none }
def repairApartRow : OpenClaim := { program := "ytcdjgldeiaiaoaagreat", sum := "0bdb7f4766b3f96283afd63a40a1f3667ca65889405a88a176761982abd0fe69", func := "additive/additivelaw14.RepairApart", spec := "repairApart", unfollowed := true, recurses := true, plainKeys := false, apart := false }
def RepairApartSaid : Prop := repairApartRow.holds Tryz.pinned (OpenSpec.ofChange repairApartSpec)

/-- ITS FALSE NEIGHBOUR: 'it returns false'. Refute it at one input. -/
def repairApartWrong : ChangeSpec := { name := "repairApart", fn := fun _ => fun
  | [d] => { results := [.lit (.bool false)], args := [d] }
  | _ => none }
def RepairApartWrongFalsely : Prop := repairApartRow.holds Tryz.pinned (OpenSpec.ofChange repairApartWrong)

/-- 'additivelaw14.RepairRestores': WHATEVER THE INPUT: true; the input reads as it did. -/
def repairRestoresSpec : ChangeSpec := { name := "repairRestores", fn := fun _ => fun
  | [d1, d2, d3] => { results := [.lit (.bool true)], args := [d1, d2, d3] }
  | _ => none }
def repairRestoresRow : OpenClaim := { program := "ytcdjgldeiaiaoaagreat", sum := "0bdb7f4766b3f96283afd63a40a1f3667ca65889405a88a176761982abd0fe69", func := "additive/additivelaw14.RepairRestores", spec := "repairRestores", unfollowed := true, recurses := true, plainKeys := false, apart := false }
def RepairRestoresSaid : Prop := repairRestoresRow.holds Tryz.pinned (OpenSpec.ofChange repairRestoresSpec)

/-- ITS FALSE NEIGHBOUR: 'it returns false'. Refute it at one input. -/
def repairRestoresWrong : ChangeSpec := { name := "repairRestores", fn := fun _ => fun
  | [d1, d2, d3] => { results := [.lit (.bool false)], args := [d1, d2, d3] }
  | _ => none }
def RepairRestoresWrongFalsely : Prop := repairRestoresRow.holds Tryz.pinned (OpenSpec.ofChange repairRestoresWrong)

/- THE SECOND FORM. 'bulk': how many values and letters a reading holds, each counted each time it is reached (what is shared counts as often as it is met; a slice's spare places count too). A statement '..UptoSaid' is the law's where the arguments, and the package variables that the reading takes, are together of bulk at most 1048576: NARROWER than '..Said'. Prove '..Said' where nothing that the law and all that it calls make is longer than what came in: it says more and counts as full. Else prove '..UptoSaid'. A law counts once. -/
mutual
def uptoBulk {H : Type} : DataW H → Nat
  | .lit (.string bytes) => bytes.length + 1
  | .lit _ => 1
  | .nil => 1
  | .ptr d => uptoBulk d + 1
  | .slice elems spare => uptoBulkAll elems + uptoBulkAll spare + 1
  | .agg parts => uptoBulkAll parts + 1
  | .iface _ d => uptoBulk d + 1
  | .map entries => uptoBulkEntries entries + 1
  | .held _ => 1
def uptoBulkAll {H : Type} : List (DataW H) → Nat
  | [] => 0
  | d :: r => uptoBulk d + uptoBulkAll r
def uptoBulkEntries {H : Type} : List (Lit × DataW H) → Nat
  | [] => 0
  | x :: r => uptoBulkEntry x + uptoBulkEntries r
def uptoBulkEntry {H : Type} : Lit × DataW H → Nat
  | (.string bytes, d) => bytes.length + uptoBulk d + 1
  | (_, d) => uptoBulk d + 1
 end
def uptoSmall : (H : Type) → List (DataW H) → Bool := fun _ ds => decide (uptoBulkAll ds ≤ 1048576)
def OpenSpec.upto (s : _root_.Go.ChangeSpec) : _root_.Go.OpenSpec := { _root_.Go.OpenSpec.ofChange s with cond := some uptoSmall }

/-- 'additivelaw14.RepairSound', WHERE WHAT IT READS IS OF BULK AT MOST 1048576: true; the input reads as it did. -/
def repairSoundUptoRow : OpenClaim := { program := "ytcdjgldeiaiaoaagreat", sum := "0bdb7f4766b3f96283afd63a40a1f3667ca65889405a88a176761982abd0fe69", func := "additive/additivelaw14.RepairSound", spec := "repairSound", unfollowed := true, recurses := true, plainKeys := false, apart := false, narrowed := true }
def RepairSoundUptoSaid : Prop := repairSoundUptoRow.holds Tryz.pinned (OpenSpec.upto repairSoundSpec)

/-- 'additivelaw14.RepairChecks', WHERE WHAT IT READS IS OF BULK AT MOST 1048576: true; the input reads as it did. -/
def repairChecksUptoRow : OpenClaim := { program := "ytcdjgldeiaiaoaagreat", sum := "0bdb7f4766b3f96283afd63a40a1f3667ca65889405a88a176761982abd0fe69", func := "additive/additivelaw14.RepairChecks", spec := "repairChecks", unfollowed := true, recurses := true, plainKeys := false, apart := false, narrowed := true }
def RepairChecksUptoSaid : Prop := repairChecksUptoRow.holds Tryz.pinned (OpenSpec.upto repairChecksSpec)

/-- 'additivelaw14.RepairRepairs', WHERE WHAT IT READS IS OF BULK AT MOST 1048576: true; the input reads as it did. -/
def repairRepairsUptoRow : OpenClaim := { program := "ytcdjgldeiaiaoaagreat", sum := "0bdb7f4766b3f96283afd63a40a1f3667ca65889405a88a176761982abd0fe69", func := "additive/additivelaw14.RepairRepairs", spec := "repairRepairs", unfollowed := true, recurses := true, plainKeys := false, apart := false, narrowed := true }
def RepairRepairsUptoSaid : Prop := repairRepairsUptoRow.holds Tryz.pinned (OpenSpec.upto repairRepairsSpec)

/-- 'additivelaw14.RepairMoves', WHERE WHAT IT READS IS OF BULK AT MOST 1048576: true; the input reads as it did. -/
def repairMovesUptoRow : OpenClaim := { program := "ytcdjgldeiaiaoaagreat", sum := "0bdb7f4766b3f96283afd63a40a1f3667ca65889405a88a176761982abd0fe69", func := "additive/additivelaw14.RepairMoves", spec := "repairMoves", unfollowed := true, recurses := true, plainKeys := false, apart := false, narrowed := true }
def RepairMovesUptoSaid : Prop := repairMovesUptoRow.holds Tryz.pinned (OpenSpec.upto repairMovesSpec)

/-- 'additivelaw14.RepairApart', WHERE WHAT IT READS IS OF BULK AT MOST 1048576: true; the input reads as it did. -/
def repairApartUptoRow : OpenClaim := { program := "ytcdjgldeiaiaoaagreat", sum := "0bdb7f4766b3f96283afd63a40a1f3667ca65889405a88a176761982abd0fe69", func := "additive/additivelaw14.RepairApart", spec := "repairApart", unfollowed := true, recurses := true, plainKeys := false, apart := false, narrowed := true }
def RepairApartUptoSaid : Prop := repairApartUptoRow.holds Tryz.pinned (OpenSpec.upto repairApartSpec)

/-- 'additivelaw14.RepairRestores', WHERE WHAT IT READS IS OF BULK AT MOST 1048576: true; the input reads as it did. -/
def repairRestoresUptoRow : OpenClaim := { program := "ytcdjgldeiaiaoaagreat", sum := "0bdb7f4766b3f96283afd63a40a1f3667ca65889405a88a176761982abd0fe69", func := "additive/additivelaw14.RepairRestores", spec := "repairRestores", unfollowed := true, recurses := true, plainKeys := false, apart := false, narrowed := true }
def RepairRestoresUptoSaid : Prop := repairRestoresUptoRow.holds Tryz.pinned (OpenSpec.upto repairRestoresSpec)

end Rows
end Go.Proofs.YtcdjgldeiaiaoaaGreat
