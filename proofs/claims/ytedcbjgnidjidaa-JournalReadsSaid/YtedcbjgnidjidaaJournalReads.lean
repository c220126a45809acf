/- PROVED: JournalReads returns true for any memory; no condition. -/
import Derived.Test.YtedcbjgnidjidaaMD
import Derived.ProofKit
set_option linter.unusedVariables false
set_option linter.unusedSimpArgs false
namespace Go.Proofs.Ytedcbjgnidjidaa
open Go.Abs Go.RowKit

set_option maxRecDepth 100000 in
theorem journalReads_lifted (os : Os) (started : os.Started) (H : Type) (enc : TypeId × Value → H) :
    ReturnsInHanded {} Try.checked os 13 .any (Rows.journalReadsSpec.pre6 enc Try.prog Try.f13 Rows.journalReadsRow.domain false) (Rows.journalReadsSpec.post enc Try.prog Try.f13 false true false false) := by
  refine returnsInHanded_of_change (C := Try.checked) own started (by kernel_rfl) Try.func13
    (ChangeSpec.witness6 (enc := enc) (C := Try.checked) false ⟨#[], #[.agg #[.slice none 0 0, .int .i64 0, .bool false, .int .i64 0]], []⟩ 8 (by kernel_rfl) (by kernel_rfl) (by kernel_rfl) (by kernel_rfl)) ?_
  intro W base args ds gs before hval0 hW0 _ _
  have hval : ∀ (j : Nat) t v, Try.f13.params[j]? = some t → args[j]? = some v → Value.okWide Try.prog W .any base t v := hval0
  have hW : DataW.Whole enc Try.prog Try.f13.params.toList Rows.journalReadsSpec.vars false W args.toList ds gs before := hW0
  refine law_contract (tb := 4) (pars := [(true, flSch)]) laid rfl (by kernel_rfl) Try.underlying4 (by kernel_rfl) (by kernel_rfl) (fun ds h => ?_) (fun us hus => ?_) W base args ds gs before hval hW
  · match ds, h with
    | [d0], _ => rfl
  · skip
    obtain ⟨v0, r0, rfl, hb0, hu0⟩ := par_fl hus
    obtain rfl := par_0 hu0
    exact JournalReads_ok v0 hb0

theorem journalReads : Rows.JournalReadsSaid :=
  OpenClaim.holds_of_wide 13 Try.f13 rfl rfl rfl rfl rfl rfl rfl ⟨rfl, rfl, rfl, rfl, rfl⟩ rfl rfl rfl rfl rfl (by kernel_rfl) Try.func13 (by kernel_rfl)
    (of_decide_eq_true (by kernel_rfl)) (by unfold Func.isWrapper; first | (rw [if_pos (by decide +kernel)]; kernel_rfl) | (rw [if_neg (by decide +kernel)]; exact ⟨rfl, rfl⟩))
    (fun os started H enc _ => journalReads_lifted os started H enc)
end Go.Proofs.Ytedcbjgnidjidaa
