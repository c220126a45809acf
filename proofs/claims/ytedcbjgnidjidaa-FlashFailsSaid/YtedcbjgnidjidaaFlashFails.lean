/- PROVED: FlashFails returns true for every memory, index, data and numbers; no condition. -/
import Derived.Test.YtedcbjgnidjidaaFlRun
import Derived.Test.YtedcbjgnidjidaaFlP
import Derived.ProofKit
set_option linter.unusedVariables false
set_option linter.unusedSimpArgs false
namespace Go.Proofs.Ytedcbjgnidjidaa
open Go.Abs Go.RowKit

theorem heavy_len {x : Use} (h : x.heavy = false) : x.f.pages.length ≤ 259 := by
  simp [Use.heavy] at h
  omega

theorem fails_ok (x : Use) (hb : x.f.pages.length ≤ 9223372036854775807) : PureC Try.prog 6 [x.enc] (· = .b true) := by
  refine pure_of mix ok6 (by simp) ?_
  unfold c6
  simp [go_sem, Use.enc, encP]
  refine ACall_is ((heavy_ok x).is rfl) ?_
  cases hh : x.heavy
  · have hl := heavy_len hh
    simp [go_sem]
    refine DCall_is ((fail_ok x.f x.n x.keep (by omega)).is rfl) ?_
    simp [go_sem]
    refine DCall_is ((power_ok x.f (by omega)).is rfl) ?_
    simp [go_sem, Fl.enc, encP]
    refine DCall_is ((rfail_ok x.f x.n x.keep (by omega)).is rfl) ?_
    simp [go_sem, Fl.enc, encP]
    refine DCall_is ((same_ok (x.f.fail x.n x.keep) (by rw [fail_pages]; omega)).is rfl) ?_
    simp [go_sem, Fl.enc, encP]
    refine DCall_is ((rpower_ok x.f (by omega)).is rfl) ?_
    simp [go_sem, Fl.enc, encP]
    refine DCall_is ((same_ok x.f.power (by rw [power_pages]; omega)).is rfl) ?_
    simp [go_sem, Fl.enc, encP]
    refine ACall_is ((valid_ok x.f (by omega)).is rfl) ?_
    simp [go_sem, Fl.enc, encP]
    refine ACall_is ((valid_ok (x.f.fail x.n x.keep) (by rw [fail_pages]; omega)).is rfl) ?_
    rw [fail_valid]
    simp [go_sem, Fl.enc, encP]
    refine ACall_is ((valid_ok x.f.power (by rw [power_pages]; omega)).is rfl) ?_
    rw [power_valid]
    cases hv : x.f.valid
    · simp [go_sem]
      refine ACall_is (awake_ok.is rfl) ?_
      simp [go_sem, r6]
    · simp [go_sem, power_dead hv]
      refine ACall_is (awake_ok.is rfl) ?_
      simp [go_sem, r6]
  · simp [go_sem]
    refine ACall_is (awake_ok.is rfl) ?_
    simp [go_sem, r6]

set_option maxRecDepth 100000 in
theorem flashFails_lifted (os : Os) (started : os.Started) (H : Type) (enc : TypeId × Value → H) :
    ReturnsInHanded {} Try.checked os 6 .any (Rows.flashFailsSpec.pre6 enc Try.prog Try.f6 Rows.flashFailsRow.domain false) (Rows.flashFailsSpec.post enc Try.prog Try.f6 false true false false) := by
  refine returnsInHanded_of_change (C := Try.checked) own started (by kernel_rfl) Try.func6
    (ChangeSpec.witness6 (enc := enc) (C := Try.checked) false ⟨#[], #[.agg #[.slice none 0 0, .int .i64 0, .bool false, .int .i64 0, .int .i64 0, .string ⟨#[]⟩, .int .i64 0, .int .i64 0]], []⟩ 8 (by kernel_rfl) (by kernel_rfl) (by kernel_rfl) (by kernel_rfl)) ?_
  intro W base args ds gs before hval0 hW0 _ _
  have hval : ∀ (j : Nat) t v, Try.f6.params[j]? = some t → args[j]? = some v → Value.okWide Try.prog W .any base t v := hval0
  have hW : DataW.Whole enc Try.prog Try.f6.params.toList Rows.flashFailsSpec.vars false W args.toList ds gs before := hW0
  refine law_contract (tb := 4) (pars := [(true, useSch)]) laid rfl (by kernel_rfl) Try.underlying4 (by kernel_rfl) (by kernel_rfl) (fun ds h => ?_) (fun us hus => ?_) W base args ds gs before hval hW
  · match ds, h with
    | [d], _ => rfl
  · obtain ⟨x, rfl, hb⟩ := use_of hus
    exact fails_ok x hb

theorem flashFails : Rows.FlashFailsSaid :=
  OpenClaim.holds_of_wide 6 Try.f6 rfl rfl rfl rfl rfl rfl rfl ⟨rfl, rfl, rfl, rfl, rfl⟩ rfl rfl rfl rfl rfl (by kernel_rfl) Try.func6 (by kernel_rfl)
    (of_decide_eq_true (by kernel_rfl)) (by unfold Func.isWrapper; first | (rw [if_pos (by decide +kernel)]; kernel_rfl) | (rw [if_neg (by decide +kernel)]; exact ⟨rfl, rfl⟩))
    (fun os started H enc _ => flashFails_lifted os started H enc)
end Go.Proofs.Ytedcbjgnidjidaa
