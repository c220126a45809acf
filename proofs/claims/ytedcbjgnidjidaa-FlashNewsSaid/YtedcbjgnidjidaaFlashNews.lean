/- PROVED: FlashNews returns true for every number of pages; no condition. -/
import Derived.Test.YtedcbjgnidjidaaFlRun
import Derived.ProofKit
set_option linter.unusedVariables false
set_option linter.unusedSimpArgs false
namespace Go.Proofs.Ytedcbjgnidjidaa
open Go.Abs Go.RowKit

theorem newFl_valid {n : Int} (h : 2 ≤ n ∧ n ≤ 256) : (newFl n.toNat).valid = true := by
  simp [newFl, Fl.valid, pagesOk, zs, -List.reduceReplicate]
  omega

theorem news_ok (n : Int) : PureC Try.prog 3 [.i .i64 n] (· = .b true) := by
  refine pure_of mix ok3 (by simp) ?_
  unfold c3
  simp [go_sem]
  refine ACall_is ((new_ok n).is rfl) ?_
  by_cases h : 2 ≤ n ∧ n ≤ 256
  · have hl : (newFl n.toNat).pages.length ≤ 9223372036854775807 := by simp [newFl]; omega
    simp [go_sem, newR, h, Fl.enc, encP]
    refine ACall_is ((rnew_ok n).is rfl) ?_
    simp [go_sem, newR, h, Fl.enc, encP]
    refine ACall_is ((same_ok (newFl n.toNat) hl).is rfl) ?_
    simp [go_sem]
    refine ACall_is ((valid_ok (newFl n.toNat) hl).is rfl) ?_
    simp [go_sem, newFl_valid h]
    refine ACall_is (awake_ok.is rfl) ?_
    simp [go_sem, r3]
  · simp [go_sem, newR, h, nilFl]
    refine ACall_is ((rnew_ok n).is rfl) ?_
    simp [go_sem, newR, h, nilFl]
    refine ACall_is (same_nil.is rfl) ?_
    simp [go_sem]
    refine ACall_is (valid_nil.is rfl) ?_
    simp [go_sem]
    refine ACall_is (awake_ok.is rfl) ?_
    simp [go_sem, r3]

theorem own : ownKnob Try.prog.godebug = none := by kernel_rfl
theorem laid : laidOutB Try.prog = true := by kernel_rfl

set_option maxRecDepth 100000 in
theorem flashNews_lifted (os : Os) (started : os.Started) (H : Type) (enc : TypeId × Value → H) :
    ReturnsInHanded {} Try.checked os 3 .any (Rows.flashNewsSpec.pre6 enc Try.prog Try.f3 Rows.flashNewsRow.domain false) (Rows.flashNewsSpec.post enc Try.prog Try.f3 false true false false) := by
  refine returnsInHanded_of_change (C := Try.checked) own started (by kernel_rfl) Try.func3
    (ChangeSpec.witness6 (enc := enc) (C := Try.checked) false ⟨#[], #[.int .i64 0], []⟩ 8 (by kernel_rfl) (by kernel_rfl) (by kernel_rfl) (by kernel_rfl)) ?_
  intro W base args ds gs before hval0 hW0 _ _
  have hval : ∀ (j : Nat) t v, Try.f3.params[j]? = some t → args[j]? = some v → Value.okWide Try.prog W .any base t v := hval0
  have hW : DataW.Whole enc Try.prog Try.f3.params.toList Rows.flashNewsSpec.vars false W args.toList ds gs before := hW0
  refine law_contract (tb := 4) (pars := [(false, [.i .i64])]) laid rfl (by kernel_rfl) Try.underlying4 (by kernel_rfl) (by kernel_rfl) (fun ds h => ?_) (fun us hus => ?_) W base args ds gs before hval hW
  · match ds, h with
    | [d], _ => rfl
  · simp only [okPars, okPar] at hus
    obtain ⟨v, r, rfl, hv, rfl⟩ := hus
    simp only [okL, Sch.ok] at hv
    obtain ⟨x, r, h1, ⟨n, rfl, h2, h3⟩, rfl⟩ := hv
    obtain rfl : v = .i .i64 n := by simpa using h1
    exact news_ok n

theorem flashNews : Rows.FlashNewsSaid :=
  OpenClaim.holds_of_wide 3 Try.f3 rfl rfl rfl rfl rfl rfl rfl ⟨rfl, rfl, rfl, rfl, rfl⟩ rfl rfl rfl rfl rfl (by kernel_rfl) Try.func3 (by kernel_rfl)
    (of_decide_eq_true (by kernel_rfl)) (by unfold Func.isWrapper; first | (rw [if_pos (by decide +kernel)]; kernel_rfl) | (rw [if_neg (by decide +kernel)]; exact ⟨rfl, rfl⟩))
    (fun os started H enc _ => flashNews_lifted os started H enc)
end Go.Proofs.Ytedcbjgnidjidaa
