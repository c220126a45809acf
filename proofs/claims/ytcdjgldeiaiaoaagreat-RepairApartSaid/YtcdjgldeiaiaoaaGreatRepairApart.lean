/- PROVED: RepairApart returns true for any mesh; no condition. -/
import Derived.Test.YtcdjgldeiaiaoaaGreatCon
import Derived.ProofKit
set_option linter.unusedVariables false
set_option linter.unusedSimpArgs false
namespace Go.Proofs.YtcdjgldeiaiaoaaGreat
open Go.Abs Go.RowKit

set_option maxRecDepth 100000 in
theorem repairApart_lifted (os : Os) (started : os.Started) (H : Type) (enc : TypeId × Value → H) :
    ReturnsInHanded {} Tryz.checked os 7 .any (Rows.repairApartSpec.pre6 enc Tryz.prog Tryz.f7 Rows.repairApartRow.domain false) (Rows.repairApartSpec.post enc Tryz.prog Tryz.f7 false true false false) := by
  refine returnsInHanded_of_change (C := Tryz.checked) own started (by kernel_rfl) Tryz.func7
    (ChangeSpec.witness6 (enc := enc) (C := Tryz.checked) false ⟨#[], #[.agg #[.slice none 0 0, .slice none 0 0]], []⟩ 8 (by kernel_rfl) (by kernel_rfl) (by kernel_rfl) (by kernel_rfl)) ?_
  intro W base args ds gs before hval0 hW0 _ _
  have hval : ∀ (j : Nat) t v, Tryz.f7.params[j]? = some t → args[j]? = some v → Value.okWide Tryz.prog W .any base t v := hval0
  have hW : DataW.Whole enc Tryz.prog Tryz.f7.params.toList Rows.repairApartSpec.vars false W args.toList ds gs before := hW0
  refine law_contract (tb := 4) (pars := [(true, schM)]) laid rfl (by kernel_rfl) Tryz.underlying4 (by kernel_rfl) (by kernel_rfl) (fun ds h => ?_) (fun us hus => ?_) W base args ds gs before hval hW
  · match ds, h with
    | [d0], _ => rfl
  · skip
    obtain ⟨v0, r0, rfl, hb0, hu0⟩ := par_m hus
    obtain rfl := par_0 hu0
    exact RepairApart_ok mix ok_law14_RepairApart k_few k_Check7 awake_ok k_Box7 k_Move k_Join7 k_Rep k_rVol v0

theorem repairApart : Rows.RepairApartSaid :=
  OpenClaim.holds_of_wide 7 Tryz.f7 rfl rfl rfl rfl rfl rfl rfl ⟨rfl, rfl, rfl, rfl, rfl⟩ rfl rfl rfl rfl rfl (by kernel_rfl) Tryz.func7 (by kernel_rfl)
    (of_decide_eq_true (by kernel_rfl)) (by unfold Func.isWrapper; first | (rw [if_pos (by decide +kernel)]; kernel_rfl) | (rw [if_neg (by decide +kernel)]; exact ⟨rfl, rfl⟩))
    (fun os started H enc _ => repairApart_lifted os started H enc)
end Go.Proofs.YtcdjgldeiaiaoaaGreat
