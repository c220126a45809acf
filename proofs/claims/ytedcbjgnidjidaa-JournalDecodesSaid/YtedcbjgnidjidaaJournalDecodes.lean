/- PROVED: JournalDecodes returns true for every string; no condition. -/
import Derived.Test.YtedcbjgnidjidaaJCon
import Derived.ProofKit
set_option linter.unusedVariables false
set_option linter.unusedSimpArgs false
namespace Go.Proofs.Ytedcbjgnidjidaa
open Go.Abs Go.RowKit

set_option maxRecDepth 100000 in
theorem journalDecodes_lifted (os : Os) (started : os.Started) (H : Type) (enc : TypeId × Value → H) :
    ReturnsInHanded {} Try.checked os 10 .any (Rows.journalDecodesSpec.pre6 enc Try.prog Try.f10 Rows.journalDecodesRow.domain false) (Rows.journalDecodesSpec.post enc Try.prog Try.f10 false true false false) := by
  refine returnsInHanded_of_change (C := Try.checked) own started (by kernel_rfl) Try.func10
    (ChangeSpec.witness6 (enc := enc) (C := Try.checked) false ⟨#[], #[.string ⟨#[]⟩], []⟩ 8 (by kernel_rfl) (by kernel_rfl) (by kernel_rfl) (by kernel_rfl)) ?_
  intro W base args ds gs before hval0 hW0 _ _
  have hval : ∀ (j : Nat) t v, Try.f10.params[j]? = some t → args[j]? = some v → Value.okWide Try.prog W .any base t v := hval0
  have hW : DataW.Whole enc Try.prog Try.f10.params.toList Rows.journalDecodesSpec.vars false W args.toList ds gs before := hW0
  refine law_contract (tb := 4) (pars := [(false, [.s])]) laid rfl (by kernel_rfl) Try.underlying4 (by kernel_rfl) (by kernel_rfl) (fun ds h => ?_) (fun us hus => ?_) W base args ds gs before hval hW
  · match ds, h with
    | [d0], _ => rfl
  · skip
    obtain ⟨v0, r0, rfl, hb0, hu0⟩ := par_s hus
    obtain rfl := par_0 hu0
    exact JournalDecodes_ok mix ok_law52_JournalDecodes awake52 kDecode rDecode v0

theorem journalDecodes : Rows.JournalDecodesSaid :=
  OpenClaim.holds_of_wide 10 Try.f10 rfl rfl rfl rfl rfl rfl rfl ⟨rfl, rfl, rfl, rfl, rfl⟩ rfl rfl rfl rfl rfl (by kernel_rfl) Try.func10 (by kernel_rfl)
    (of_decide_eq_true (by kernel_rfl)) (by unfold Func.isWrapper; first | (rw [if_pos (by decide +kernel)]; kernel_rfl) | (rw [if_neg (by decide +kernel)]; exact ⟨rfl, rfl⟩))
    (fun os started H enc _ => journalDecodes_lifted os started H enc)
end Go.Proofs.Ytedcbjgnidjidaa
