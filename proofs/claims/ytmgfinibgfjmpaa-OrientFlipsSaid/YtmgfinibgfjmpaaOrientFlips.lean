/- PROVED: OrientFlips returns true for any mesh and any flips; no condition. -/
import Derived.Test.YtmgfinibgfjmpaaConD
import Derived.ProofKit
set_option linter.unusedVariables false
set_option linter.unusedSimpArgs false
namespace Go.Proofs.Ytmgfinibgfjmpaa
open Go.Abs Go.RowKit

set_option maxRecDepth 100000 in
theorem orientFlips_lifted (os : Os) (started : os.Started) (H : Type) (enc : TypeId × Value → H) :
    ReturnsInHanded {} Try.checked os 7 .any (Rows.orientFlipsSpec.pre6 enc Try.prog Try.f7 Rows.orientFlipsRow.domain false) (Rows.orientFlipsSpec.post enc Try.prog Try.f7 false true false false) := by
  refine returnsInHanded_of_change (C := Try.checked) own started (by kernel_rfl) Try.func7
    (ChangeSpec.witness6 (enc := enc) (C := Try.checked) false ⟨#[], #[.agg #[.slice none 0 0, .slice none 0 0], .int .u64 0], []⟩ 8 (by kernel_rfl) (by kernel_rfl) (by kernel_rfl) (by kernel_rfl)) ?_
  intro W base args ds gs before hval0 hW0 _ _
  have hval : ∀ (j : Nat) t v, Try.f7.params[j]? = some t → args[j]? = some v → Value.okWide Try.prog W .any base t v := hval0
  have hW : DataW.Whole enc Try.prog Try.f7.params.toList Rows.orientFlipsSpec.vars false W args.toList ds gs before := hW0
  refine law_contract (tb := 4) (pars := [(true, schM), (false, [.i .u64])]) laid rfl (by kernel_rfl) Try.underlying4 (by kernel_rfl) (by kernel_rfl) (fun ds h => ?_) (fun us hus => ?_) W base args ds gs before hval hW
  · match ds, h with
    | [d0, d1], _ => rfl
  · skip
    obtain ⟨v0, r0, rfl, hb0, hu0⟩ := par_m hus
    obtain ⟨v1, r1, rfl, hb1, hu1⟩ := par_i hu0
    obtain rfl := par_0 hu1
    exact OrientFlips_ok mix ok_law11_OrientFlips k_Small k_Check awake_ok k_Shells k_rRev3 k_Orient k_same v0 v1

theorem orientFlips : Rows.OrientFlipsSaid :=
  OpenClaim.holds_of_wide 7 Try.f7 rfl rfl rfl rfl rfl rfl rfl ⟨rfl, rfl, rfl, rfl, rfl⟩ rfl rfl rfl rfl rfl (by kernel_rfl) Try.func7 (by kernel_rfl)
    (of_decide_eq_true (by kernel_rfl)) (by unfold Func.isWrapper; first | (rw [if_pos (by decide +kernel)]; kernel_rfl) | (rw [if_neg (by decide +kernel)]; exact ⟨rfl, rfl⟩))
    (fun os started H enc _ => orientFlips_lifted os started H enc)
end Go.Proofs.Ytmgfinibgfjmpaa
