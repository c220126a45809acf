/- PROVED: SectionPoints returns true for any two points and any height; no condition. -/
import Derived.Test.YtaffnmhokdhgdaaCon
import Derived.ProofKit
set_option linter.unusedVariables false
set_option linter.unusedSimpArgs false
namespace Go.Proofs.Ytaffnmhokdhgdaa
open Go.Abs Go.RowKit

set_option maxRecDepth 100000 in
theorem sectionPoints_lifted (os : Os) (started : os.Started) (H : Type) (enc : TypeId × Value → H) :
    ReturnsInHanded {} Try.checked os 3 .any (Rows.sectionPointsSpec.pre6 enc Try.prog Try.f3 Rows.sectionPointsRow.domain false) (Rows.sectionPointsSpec.post enc Try.prog Try.f3 false true false false) := by
  refine returnsInHanded_of_change (C := Try.checked) own started (by kernel_rfl) Try.func3
    (ChangeSpec.witness6 (enc := enc) (C := Try.checked) false ⟨#[], #[.agg #[.int .i64 0, .int .i64 0, .int .i64 0], .agg #[.int .i64 0, .int .i64 0, .int .i64 0], .int .i64 0], []⟩ 8 (by kernel_rfl) (by kernel_rfl) (by kernel_rfl) (by kernel_rfl)) ?_
  intro W base args ds gs before hval0 hW0 _ _
  have hval : ∀ (j : Nat) t v, Try.f3.params[j]? = some t → args[j]? = some v → Value.okWide Try.prog W .any base t v := hval0
  have hW : DataW.Whole enc Try.prog Try.f3.params.toList Rows.sectionPointsSpec.vars false W args.toList ds gs before := hW0
  refine law_contract (tb := 4) (pars := [(true, schV), (true, schV), (false, [.i .i64])]) laid rfl (by kernel_rfl) Try.underlying4 (by kernel_rfl) (by kernel_rfl) (fun ds h => ?_) (fun us hus => ?_) W base args ds gs before hval hW
  · match ds, h with
    | [d0, d1, d2], _ => rfl
  · skip
    obtain ⟨v0, r0, rfl, hu0⟩ := par_v hus
    obtain ⟨v1, r1, rfl, hu1⟩ := par_v hu0
    obtain ⟨v2, r2, rfl, hb2, hu2⟩ := par_i hu1
    obtain rfl := par_0 hu2
    exact SectionPoints_ok mix ok_law15_SectionPoints k_Point k_rPoint awake_ok v0 v1 v2

theorem sectionPoints : Rows.SectionPointsSaid :=
  OpenClaim.holds_of_wide 3 Try.f3 rfl rfl rfl rfl rfl rfl rfl ⟨rfl, rfl, rfl, rfl, rfl⟩ rfl rfl rfl rfl rfl (by kernel_rfl) Try.func3 (by kernel_rfl)
    (of_decide_eq_true (by kernel_rfl)) (by unfold Func.isWrapper; first | (rw [if_pos (by decide +kernel)]; kernel_rfl) | (rw [if_neg (by decide +kernel)]; exact ⟨rfl, rfl⟩))
    (fun os started H enc _ => sectionPoints_lifted os started H enc)
end Go.Proofs.Ytaffnmhokdhgdaa
