/- PROVED: StackHeights returns true for any two numbers; no condition. -/
import Derived.Test.YtnaehggpjfdenaaGreatCon
import Derived.ProofKit
set_option linter.unusedVariables false
set_option linter.unusedSimpArgs false
namespace Go.Proofs.YtnaehggpjfdenaaGreat
open Go.Abs Go.RowKit

set_option maxRecDepth 100000 in
theorem stackHeights_lifted (os : Os) (started : os.Started) (H : Type) (enc : TypeId × Value → H) :
    ReturnsInHanded {} Tryz.checked os 4 .any (Rows.stackHeightsSpec.pre6 enc Tryz.prog Tryz.f4 Rows.stackHeightsRow.domain false) (Rows.stackHeightsSpec.post enc Tryz.prog Tryz.f4 false true false false) := by
  refine returnsInHanded_of_change (C := Tryz.checked) own started (by kernel_rfl) Tryz.func4
    (ChangeSpec.witness6 (enc := enc) (C := Tryz.checked) false ⟨#[], #[.int .i64 0, .int .i64 0], []⟩ 8 (by kernel_rfl) (by kernel_rfl) (by kernel_rfl) (by kernel_rfl)) ?_
  intro W base args ds gs before hval0 hW0 _ _
  have hval : ∀ (j : Nat) t v, Tryz.f4.params[j]? = some t → args[j]? = some v → Value.okWide Tryz.prog W .any base t v := hval0
  have hW : DataW.Whole enc Tryz.prog Tryz.f4.params.toList Rows.stackHeightsSpec.vars false W args.toList ds gs before := hW0
  refine law_contract (tb := 4) (pars := [(false, [.i .i64]), (false, [.i .i64])]) laid rfl (by kernel_rfl) Tryz.underlying4 (by kernel_rfl) (by kernel_rfl) (fun ds h => ?_) (fun us hus => ?_) W base args ds gs before hval hW
  · match ds, h with
    | [d0, d1], _ => rfl
  · skip
    obtain ⟨v0, r0, rfl, hb0, hu0⟩ := par_i hus
    obtain ⟨v1, r1, rfl, hb1, hu1⟩ := par_i hu0
    obtain rfl := par_0 hu1
    exact StackHeights_ok mix ok_law26_StackHeights k_hgt k_rhgt awake_ok v0 v1 hb0.2 hb0.1

theorem stackHeights : Rows.StackHeightsSaid :=
  OpenClaim.holds_of_wide 4 Tryz.f4 rfl rfl rfl rfl rfl rfl rfl ⟨rfl, rfl, rfl, rfl, rfl⟩ rfl rfl rfl rfl rfl (by kernel_rfl) Tryz.func4 (by kernel_rfl)
    (of_decide_eq_true (by kernel_rfl)) (by unfold Func.isWrapper; first | (rw [if_pos (by decide +kernel)]; kernel_rfl) | (rw [if_neg (by decide +kernel)]; exact ⟨rfl, rfl⟩))
    (fun os started H enc _ => stackHeights_lifted os started H enc)
end Go.Proofs.YtnaehggpjfdenaaGreat
