/- PROVED: StackBoxes returns true for any two vectors and settings; no condition. -/
import Derived.Test.YtnaehggpjfdenaaGreatCon
import Derived.ProofKit
set_option linter.unusedVariables false
set_option linter.unusedSimpArgs false
namespace Go.Proofs.YtnaehggpjfdenaaGreat
open Go.Abs Go.RowKit

set_option maxRecDepth 100000 in
theorem stackBoxes_lifted (os : Os) (started : os.Started) (H : Type) (enc : TypeId × Value → H) :
    ReturnsInHanded {} Tryz.checked os 7 .any (Rows.stackBoxesSpec.pre6 enc Tryz.prog Tryz.f7 Rows.stackBoxesRow.domain false) (Rows.stackBoxesSpec.post enc Tryz.prog Tryz.f7 false true false false) := by
  refine returnsInHanded_of_change (C := Tryz.checked) own started (by kernel_rfl) Tryz.func7
    (ChangeSpec.witness6 (enc := enc) (C := Tryz.checked) false ⟨#[], #[.agg #[.int .i64 0, .int .i64 0, .int .i64 0], .agg #[.int .i64 0, .int .i64 0, .int .i64 0], .agg #[.int .i64 0, .int .i64 0, .int .i64 0, .int .i64 0, .int .i64 0, .int .i64 0, .int .i64 0, .bool false, .int .i64 0, .int .i64 0, .int .i64 0, .int .i64 0, .int .i64 0, .int .i64 0, .int .i64 0, .int .i64 0, .int .i64 0, .int .i64 0, .int .i64 0, .int .i64 0]], []⟩ 8 (by kernel_rfl) (by kernel_rfl) (by kernel_rfl) (by kernel_rfl)) ?_
  intro W base args ds gs before hval0 hW0 _ _
  have hval : ∀ (j : Nat) t v, Tryz.f7.params[j]? = some t → args[j]? = some v → Value.okWide Tryz.prog W .any base t v := hval0
  have hW : DataW.Whole enc Tryz.prog Tryz.f7.params.toList Rows.stackBoxesSpec.vars false W args.toList ds gs before := hW0
  refine law_contract (tb := 4) (pars := [(true, schV), (true, schV), (true, schSt)]) laid rfl (by kernel_rfl) Tryz.underlying4 (by kernel_rfl) (by kernel_rfl) (fun ds h => ?_) (fun us hus => ?_) W base args ds gs before hval hW
  · match ds, h with
    | [d0, d1, d2], _ => rfl
  · skip
    obtain ⟨v0, r0, rfl, hu0⟩ := par_v hus
    obtain ⟨v1, r1, rfl, hu1⟩ := par_v hu0
    obtain ⟨v2, r2, rfl, hu2⟩ := par_st hu1
    obtain rfl := par_0 hu2
    exact StackBoxes_ok mix ok_law26_StackBoxes awake_ok k_BoxS k_Slices k_rect k_Same18 v0 v1 v2

theorem stackBoxes : Rows.StackBoxesSaid :=
  OpenClaim.holds_of_wide 7 Tryz.f7 rfl rfl rfl rfl rfl rfl rfl ⟨rfl, rfl, rfl, rfl, rfl⟩ rfl rfl rfl rfl rfl (by kernel_rfl) Tryz.func7 (by kernel_rfl)
    (of_decide_eq_true (by kernel_rfl)) (by unfold Func.isWrapper; first | (rw [if_pos (by decide +kernel)]; kernel_rfl) | (rw [if_neg (by decide +kernel)]; exact ⟨rfl, rfl⟩))
    (fun os started H enc _ => stackBoxes_lifted os started H enc)
end Go.Proofs.YtnaehggpjfdenaaGreat
