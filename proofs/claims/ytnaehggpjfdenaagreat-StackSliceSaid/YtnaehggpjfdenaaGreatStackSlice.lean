/- PROVED: StackSlice returns true for any mesh, height and pitch; no condition. -/
import Derived.Test.YtnaehggpjfdenaaGreatCon
import Derived.ProofKit
set_option linter.unusedVariables false
set_option linter.unusedSimpArgs false
namespace Go.Proofs.YtnaehggpjfdenaaGreat
open Go.Abs Go.RowKit

set_option maxRecDepth 100000 in
theorem stackSlice_lifted (os : Os) (started : os.Started) (H : Type) (enc : TypeId × Value → H) :
    ReturnsInHanded {} Tryz.checked os 5 .any (Rows.stackSliceSpec.pre6 enc Tryz.prog Tryz.f5 Rows.stackSliceRow.domain false) (Rows.stackSliceSpec.post enc Tryz.prog Tryz.f5 false true false false) := by
  refine returnsInHanded_of_change (C := Tryz.checked) own started (by kernel_rfl) Tryz.func5
    (ChangeSpec.witness6 (enc := enc) (C := Tryz.checked) false ⟨#[], #[.agg #[.slice none 0 0, .slice none 0 0], .int .i64 0, .int .i64 0], []⟩ 8 (by kernel_rfl) (by kernel_rfl) (by kernel_rfl) (by kernel_rfl)) ?_
  intro W base args ds gs before hval0 hW0 _ _
  have hval : ∀ (j : Nat) t v, Tryz.f5.params[j]? = some t → args[j]? = some v → Value.okWide Tryz.prog W .any base t v := hval0
  have hW : DataW.Whole enc Tryz.prog Tryz.f5.params.toList Rows.stackSliceSpec.vars false W args.toList ds gs before := hW0
  refine law_contract (tb := 4) (pars := [(true, schM), (false, [.i .i64]), (false, [.i .i64])]) laid rfl (by kernel_rfl) Tryz.underlying4 (by kernel_rfl) (by kernel_rfl) (fun ds h => ?_) (fun us hus => ?_) W base args ds gs before hval hW
  · match ds, h with
    | [d0, d1, d2], _ => rfl
  · skip
    obtain ⟨v0, r0, rfl, hb0, hu0⟩ := par_m hus
    obtain ⟨v1, r1, rfl, hb1, hu1⟩ := par_i hu0
    obtain ⟨v2, r2, rfl, hb2, hu2⟩ := par_i hu1
    obtain rfl := par_0 hu2
    exact StackSlice_ok mix ok_law26_StackSlice k_few awake_ok k_Slice k_rSlice k_Same18 v0 v1 v2

theorem stackSlice : Rows.StackSliceSaid :=
  OpenClaim.holds_of_wide 5 Tryz.f5 rfl rfl rfl rfl rfl rfl rfl ⟨rfl, rfl, rfl, rfl, rfl⟩ rfl rfl rfl rfl rfl (by kernel_rfl) Tryz.func5 (by kernel_rfl)
    (of_decide_eq_true (by kernel_rfl)) (by unfold Func.isWrapper; first | (rw [if_pos (by decide +kernel)]; kernel_rfl) | (rw [if_neg (by decide +kernel)]; exact ⟨rfl, rfl⟩))
    (fun os started H enc _ => stackSlice_lifted os started H enc)
end Go.Proofs.YtnaehggpjfdenaaGreat
