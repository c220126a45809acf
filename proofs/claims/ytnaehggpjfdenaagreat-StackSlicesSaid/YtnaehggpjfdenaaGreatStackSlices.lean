/- PROVED: StackSlices returns true for any parts and settings; no condition. -/
import Derived.Test.YtnaehggpjfdenaaGreatCon
import Derived.ProofKit
set_option linter.unusedVariables false
set_option linter.unusedSimpArgs false
namespace Go.Proofs.YtnaehggpjfdenaaGreat
open Go.Abs Go.RowKit

set_option maxRecDepth 100000 in
theorem stackSlices_lifted (os : Os) (started : os.Started) (H : Type) (enc : TypeId × Value → H) :
    ReturnsInHanded {} Tryz.checked os 6 .any (Rows.stackSlicesSpec.pre6 enc Tryz.prog Tryz.f6 Rows.stackSlicesRow.domain false) (Rows.stackSlicesSpec.post enc Tryz.prog Tryz.f6 false true false false) := by
  refine returnsInHanded_of_change (C := Tryz.checked) own started (by kernel_rfl) Tryz.func6
    (ChangeSpec.witness6 (enc := enc) (C := Tryz.checked) false ⟨#[], #[.slice none 0 0, .agg #[.int .i64 0, .int .i64 0, .int .i64 0, .int .i64 0, .int .i64 0, .int .i64 0, .int .i64 0, .bool false, .int .i64 0, .int .i64 0, .int .i64 0, .int .i64 0, .int .i64 0, .int .i64 0, .int .i64 0, .int .i64 0, .int .i64 0, .int .i64 0, .int .i64 0, .int .i64 0]], []⟩ 8 (by kernel_rfl) (by kernel_rfl) (by kernel_rfl) (by kernel_rfl)) ?_
  intro W base args ds gs before hval0 hW0 _ _
  have hval : ∀ (j : Nat) t v, Tryz.f6.params[j]? = some t → args[j]? = some v → Value.okWide Tryz.prog W .any base t v := hval0
  have hW : DataW.Whole enc Tryz.prog Tryz.f6.params.toList Rows.stackSlicesSpec.vars false W args.toList ds gs before := hW0
  refine law_contract (tb := 4) (pars := [(false, [.sl schM]), (true, schSt)]) laid rfl (by kernel_rfl) Tryz.underlying4 (by kernel_rfl) (by kernel_rfl) (fun ds h => ?_) (fun us hus => ?_) W base args ds gs before hval hW
  · match ds, h with
    | [d0, d1], _ => rfl
  · skip
    obtain ⟨v0, r0, rfl, hb0, hu0⟩ := par_ms hus
    obtain ⟨v1, r1, rfl, hu1⟩ := par_st hu0
    obtain rfl := par_0 hu1
    exact StackSlices_ok mix ok_law26_StackSlices k_low awake_ok k_Slices k_rSlices k_SameL v0 v1

theorem stackSlices : Rows.StackSlicesSaid :=
  OpenClaim.holds_of_wide 6 Tryz.f6 rfl rfl rfl rfl rfl rfl rfl ⟨rfl, rfl, rfl, rfl, rfl⟩ rfl rfl rfl rfl rfl (by kernel_rfl) Tryz.func6 (by kernel_rfl)
    (of_decide_eq_true (by kernel_rfl)) (by unfold Func.isWrapper; first | (rw [if_pos (by decide +kernel)]; kernel_rfl) | (rw [if_neg (by decide +kernel)]; exact ⟨rfl, rfl⟩))
    (fun os started H enc _ => stackSlices_lifted os started H enc)
end Go.Proofs.YtnaehggpjfdenaaGreat
