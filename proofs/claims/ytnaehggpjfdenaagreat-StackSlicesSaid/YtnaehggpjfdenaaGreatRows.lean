/-
  No cell of these rows narrows 'for every input' (looked for: loops, veiled, ifaces, maps, wideKeys, modest, calm, conditions, laid).
  DERIVED. THE GIVEN ROWS OF THIS SEAT. 6 by the template 'for every input the law returns true; each argument reads behind the call as it read before'; 0 by the template 'total and deterministic' (their statements: YtnaehggpjfdenaaGreatTotals.lean).
  GIVEN WITH THE SEED: the statements are not yours to turn. If you find one false, say at which input.
  Laid BY PROGRAM, IN A SANDBOX (cutbox-rows.mjs): the forced cells as the released guide's own fill.sh prints them over the translation 41c6c0e530a5fc43… (all of the seat's roots in one cut). By AI agents, Wed Nov 11 2026. No macro, syntax, notation, axiom, sorry.
-/
import Derived.Test.YtnaehggpjfdenaaGreatChecked
import GoSem.Claim
import GoSem.ClaimJoined
import GoSem.ClaimMapViews
import Derived.JoinedTies
import Derived.KernelRfl
namespace Go.Proofs.YtnaehggpjfdenaaGreat
/- THE CELL 'sum', in the pinned program and in every row, IS THE sha256 OF THE DUMP (.gsa) THAT YtnaehggpjfdenaaGreatProg.lean LOADS. Nothing in Lean hashes anything: it is a label: what it is worth is what the hold of that sum in a sandbox is worth. -/
noncomputable def Tryz.pinned : Pinned := { name := "ytnaehggpjfdenaagreat", sum := "41c6c0e530a5fc43b59bb64096f9d706c18af167617b55d78a5808bedd812754", checked := Tryz.checked }
namespace Rows
def none {H : Type} : Left H := { results := [], args := [] }

/-- 'additivelaw26.StackUnites': WHATEVER THE INPUT: true; the input reads as it did. -/
def stackUnitesSpec : ChangeSpec := { name := "stackUnites", fn := fun _ => fun
  | [d1, d2] => { results := [.lit (.bool true)], args := [d1, d2] }
  | _ => none }
def stackUnitesRow : OpenClaim := { program := "ytnaehggpjfdenaagreat", sum := "41c6c0e530a5fc43b59bb64096f9d706c18af167617b55d78a5808bedd812754", func := "additive/additivelaw26.StackUnites", spec := "stackUnites", unfollowed := true, recurses := true, plainKeys := false, apart := false }
def StackUnitesSaid : Prop := stackUnitesRow.holds Tryz.pinned (OpenSpec.ofChange stackUnitesSpec)

/-- ITS FALSE NEIGHBOUR: 'it returns false'. Refute it at one input. -/
def stackUnitesWrong : ChangeSpec := { name := "stackUnites", fn := fun _ => fun
  | [d1, d2] => { results := [.lit (.bool false)], args := [d1, d2] }
  | _ => none }
def StackUnitesWrongFalsely : Prop := stackUnitesRow.holds Tryz.pinned (OpenSpec.ofChange stackUnitesWrong)

/-- 'additivelaw26.StackHeights': WHATEVER THE INPUT: true; the input reads as it did. -/
def stackHeightsSpec : ChangeSpec := { name := "stackHeights", fn := fun _ => fun
  | [d1, d2] => { results := [.lit (.bool true)], args := [d1, d2] }
  | _ => none }
def stackHeightsRow : OpenClaim := { program := "ytnaehggpjfdenaagreat", sum := "41c6c0e530a5fc43b59bb64096f9d706c18af167617b55d78a5808bedd812754", func := "additive/additivelaw26.StackHeights", spec := "stackHeights", unfollowed := true, recurses := true, plainKeys := false, apart := false }
def StackHeightsSaid : Prop := stackHeightsRow.holds Tryz.pinned (OpenSpec.ofChange stackHeightsSpec)

/-- ITS FALSE NEIGHBOUR: 'it returns false'. Refute it at one input. -/
def stackHeightsWrong : ChangeSpec := { name := "stackHeights", fn := fun _ => fun
  | [d1, d2] => { results := [.lit (.bool false)], args := [d1, d2] }
  | _ => none }
def StackHeightsWrongFalsely : Prop := stackHeightsRow.holds Tryz.pinned (OpenSpec.ofChange stackHeightsWrong)

/-- 'additivelaw26.StackSlice': WHATEVER THE INPUT: true; the input reads as it did. -/
def stackSliceSpec : ChangeSpec := { name := "stackSlice", fn := fun _ => fun
  | [d1, d2, d3] => { results := [.lit (.bool true)], args := [d1, d2, d3] }
  | _ => none }
def stackSliceRow : OpenClaim := { program := "ytnaehggpjfdenaagreat", sum := "41c6c0e530a5fc43b59bb64096f9d706c18af167617b55d78a5808bedd812754", func := "additive/additivelaw26.StackSlice", spec := "stackSlice", unfollowed := true, recurses := true, plainKeys := false, apart := false }
def StackSliceSaid : Prop := stackSliceRow.holds Tryz.pinned (OpenSpec.ofChange stackSliceSpec)

/-- ITS FALSE NEIGHBOUR: 'it returns false'. Refute it at one input. -/
def stackSliceWrong : ChangeSpec := { name := "stackSlice", fn := fun _ => fun
  | [d1, d2, d3] => { results := [.lit (.bool false)], args := [d1, d2, d3] }
  | _ => none }
def StackSliceWrongFalsely : Prop := stackSliceRow.holds Tryz.pinned (OpenSpec.ofChange stackSliceWrong)

/-- 'additivelaw26.StackSlices': WHATEVER THE INPUT: true; the input reads as it did. -/
def stackSlicesSpec : ChangeSpec := { name := "stackSlices", fn := fun _ => fun
  | [d1, d2] => { results := [.lit (.bool true)], args := [d1, d2] }
  | _ => none }
def stackSlicesRow : OpenClaim := { program := "ytnaehggpjfdenaagreat", sum := "41c6c0e530a5fc43b59bb64096f9d706c18af167617b55d78a5808bedd812754", func := "additive/additivelaw26.StackSlices", spec := "stackSlices", unfollowed := true, recurses := true, plainKeys := false, apart := false }
def StackSlicesSaid : Prop := stackSlicesRow.holds Tryz.pinned (OpenSpec.ofChange stackSlicesSpec)

/-- ITS FALSE NEIGHBOUR: 'it returns false'. Refute it at one input. -/
def stackSlicesWrong : ChangeSpec := { name := "stackSlices", fn := fun _ => fun
  | [d1, d2] => { results := [.lit (.bool false)], args := [d1, d2] }
  | _ => none }
def StackSlicesWrongFalsely : Prop := stackSlicesRow.holds Tryz.pinned (OpenSpec.ofChange stackSlicesWrong)

/-- 'additivelaw26.StackBoxes': WHATEVER THE INPUT: true; the input reads as it did. -/
def stackBoxesSpec : ChangeSpec := { name := "stackBoxes", fn := fun _ => fun
  | [d1, d2, d3] => { results := [.lit (.bool true)], args := [d1, d2, d3] }
  | _ => none }
def stackBoxesRow : OpenClaim := { program := "ytnaehggpjfdenaagreat", sum := "41c6c0e530a5fc43b59bb64096f9d706c18af167617b55d78a5808bedd812754", func := "additive/additivelaw26.StackBoxes", spec := "stackBoxes", unfollowed := true, recurses := true, plainKeys := false, apart := false }
def StackBoxesSaid : Prop := stackBoxesRow.holds Tryz.pinned (OpenSpec.ofChange stackBoxesSpec)

/-- ITS FALSE NEIGHBOUR: 'it returns false'. Refute it at one input. -/
def stackBoxesWrong : ChangeSpec := { name := "stackBoxes", fn := fun _ => fun
  | [d1, d2, d3] => { results := [.lit (.bool false)], args := [d1, d2, d3] }
  | _ => none }
def StackBoxesWrongFalsely : Prop := stackBoxesRow.holds Tryz.pinned (OpenSpec.ofChange stackBoxesWrong)

/-- 'additivelaw26.StackSettings': WHATEVER THE INPUT: true; the input reads as it did. -/
def stackSettingsSpec : ChangeSpec := { name := "stackSettings", fn := fun _ => fun
  | [d1, d2, d3] => { results := [.lit (.bool true)], args := [d1, d2, d3] }
  | _ => none }
def stackSettingsRow : OpenClaim := { program := "ytnaehggpjfdenaagreat", sum := "41c6c0e530a5fc43b59bb64096f9d706c18af167617b55d78a5808bedd812754", func := "additive/additivelaw26.StackSettings", spec := "stackSettings", unfollowed := true, recurses := true, plainKeys := false, apart := false }
def StackSettingsSaid : Prop := stackSettingsRow.holds Tryz.pinned (OpenSpec.ofChange stackSettingsSpec)

/-- ITS FALSE NEIGHBOUR: 'it returns false'. Refute it at one input. -/
def stackSettingsWrong : ChangeSpec := { name := "stackSettings", fn := fun _ => fun
  | [d1, d2, d3] => { results := [.lit (.bool false)], args := [d1, d2, d3] }
  | _ => none }
def StackSettingsWrongFalsely : Prop := stackSettingsRow.holds Tryz.pinned (OpenSpec.ofChange stackSettingsWrong)

/- THE SECOND FORM. 'bulk': how many values and letters a reading holds, each counted each time it is reached (what is shared counts as often as it is met; a slice's spare places count too). A statement '..UptoSaid' is the law's where the arguments, and the package variables that the reading takes, are together of bulk at most 1048576: NARROWER than '..Said'. Prove '..Said' where nothing that the law and all that it calls make is longer than what came in: it says more and counts as full. Else prove '..UptoSaid'. A law counts once. -/
mutual
def uptoBulk {H : Type} : DataW H → Nat
  | .lit (.string bytes) => bytes.length + 1
  | .lit _ => 1
  | .nil => 1
  | .ptr d => uptoBulk d + 1
  | .slice elems spare => uptoBulkAll elems + uptoBulkAll spare + 1
  | .agg parts => uptoBulkAll parts + 1
  | .iface _ d => uptoBulk d + 1
  | .map entries => uptoBulkEntries entries + 1
  | .held _ => 1
def uptoBulkAll {H : Type} : List (DataW H) → Nat
  | [] => 0
  | d :: r => uptoBulk d + uptoBulkAll r
def uptoBulkEntries {H : Type} : List (Lit × DataW H) → Nat
  | [] => 0
  | x :: r => uptoBulkEntry x + uptoBulkEntries r
def uptoBulkEntry {H : Type} : Lit × DataW H → Nat
  | (.string bytes, d) => bytes.length + uptoBulk d + 1
  | (_, d) => uptoBulk d + 1
 end
def uptoSmall : (H : Type) → List (DataW H) → Bool := fun _ ds => decide (uptoBulkAll ds ≤ 1048576)
def OpenSpec.upto (s : _root_.Go.ChangeSpec) : _root_.Go.OpenSpec := { _root_.Go.OpenSpec.ofChange s with cond := some uptoSmall }

/-- 'additivelaw26.StackUnites', WHERE WHAT IT READS IS OF BULK AT MOST 1048576: true; the input reads as it did. -/
def stackUnitesUptoRow : OpenClaim := { program := "ytnaehggpjfdenaagreat", sum := "41c6c0e530a5fc43b59bb64096f9d706c18af167617b55d78a5808bedd812754", func := "additive/additivelaw26.StackUnites", spec := "stackUnites", unfollowed := true, recurses := true, plainKeys := false, apart := false, narrowed := true }
def StackUnitesUptoSaid : Prop := stackUnitesUptoRow.holds Tryz.pinned (OpenSpec.upto stackUnitesSpec)

/-- 'additivelaw26.StackHeights', WHERE WHAT IT READS IS OF BULK AT MOST 1048576: true; the input reads as it did. -/
def stackHeightsUptoRow : OpenClaim := { program := "ytnaehggpjfdenaagreat", sum := "41c6c0e530a5fc43b59bb64096f9d706c18af167617b55d78a5808bedd812754", func := "additive/additivelaw26.StackHeights", spec := "stackHeights", unfollowed := true, recurses := true, plainKeys := false, apart := false, narrowed := true }
def StackHeightsUptoSaid : Prop := stackHeightsUptoRow.holds Tryz.pinned (OpenSpec.upto stackHeightsSpec)

/-- 'additivelaw26.StackSlice', WHERE WHAT IT READS IS OF BULK AT MOST 1048576: true; the input reads as it did. -/
def stackSliceUptoRow : OpenClaim := { program := "ytnaehggpjfdenaagreat", sum := "41c6c0e530a5fc43b59bb64096f9d706c18af167617b55d78a5808bedd812754", func := "additive/additivelaw26.StackSlice", spec := "stackSlice", unfollowed := true, recurses := true, plainKeys := false, apart := false, narrowed := true }
def StackSliceUptoSaid : Prop := stackSliceUptoRow.holds Tryz.pinned (OpenSpec.upto stackSliceSpec)

/-- 'additivelaw26.StackSlices', WHERE WHAT IT READS IS OF BULK AT MOST 1048576: true; the input reads as it did. -/
def stackSlicesUptoRow : OpenClaim := { program := "ytnaehggpjfdenaagreat", sum := "41c6c0e530a5fc43b59bb64096f9d706c18af167617b55d78a5808bedd812754", func := "additive/additivelaw26.StackSlices", spec := "stackSlices", unfollowed := true, recurses := true, plainKeys := false, apart := false, narrowed := true }
def StackSlicesUptoSaid : Prop := stackSlicesUptoRow.holds Tryz.pinned (OpenSpec.upto stackSlicesSpec)

/-- 'additivelaw26.StackBoxes', WHERE WHAT IT READS IS OF BULK AT MOST 1048576: true; the input reads as it did. -/
def stackBoxesUptoRow : OpenClaim := { program := "ytnaehggpjfdenaagreat", sum := "41c6c0e530a5fc43b59bb64096f9d706c18af167617b55d78a5808bedd812754", func := "additive/additivelaw26.StackBoxes", spec := "stackBoxes", unfollowed := true, recurses := true, plainKeys := false, apart := false, narrowed := true }
def StackBoxesUptoSaid : Prop := stackBoxesUptoRow.holds Tryz.pinned (OpenSpec.upto stackBoxesSpec)

/-- 'additivelaw26.StackSettings', WHERE WHAT IT READS IS OF BULK AT MOST 1048576: true; the input reads as it did. -/
def stackSettingsUptoRow : OpenClaim := { program := "ytnaehggpjfdenaagreat", sum := "41c6c0e530a5fc43b59bb64096f9d706c18af167617b55d78a5808bedd812754", func := "additive/additivelaw26.StackSettings", spec := "stackSettings", unfollowed := true, recurses := true, plainKeys := false, apart := false, narrowed := true }
def StackSettingsUptoSaid : Prop := stackSettingsUptoRow.holds Tryz.pinned (OpenSpec.upto stackSettingsSpec)

end Rows
end Go.Proofs.YtnaehggpjfdenaaGreat
