/- PROVED: FlashReads returns true for every memory, index, data and numbers; no condition. -/
import Derived.Test.YtedcbjgnidjidaaFlRun
import Derived.Test.YtedcbjgnidjidaaFlR
import Derived.ProofKit
set_option linter.unusedVariables false
set_option linter.unusedSimpArgs false
namespace Go.Proofs.Ytedcbjgnidjidaa
open Go.Abs Go.RowKit

theorem reads_ok (x : Use) (hb : x.f.pages.length ≤ 9223372036854775807) : PureC Try.prog 4 [x.enc] (· = .b true) := by
  refine pure_of mix ok4 (by simp) ?_
  unfold c4
  simp [go_sem, Use.enc, encP]
  refine ACall_is ((heavy_ok x).is rfl) ?_
  cases hh : x.heavy
  · simp [go_sem]
    refine ACall_is ((read_ok x.f x.i hb).is rfl) ?_
    have hr : ∃ s e, x.f.read x.i = .t [.s s, .i .i64 e] := by
      unfold Fl.read
      split
      · split <;> exact ⟨_, _, rfl⟩
      · exact ⟨_, _, rfl⟩
    obtain ⟨s, e, hr⟩ := hr
    simp [go_sem, hr]
    refine ACall_is ((rread_ok x.f x.i hb).is rfl) ?_
    simp [go_sem, hr]
    refine DCall_is ((valid_ok x.f hb).is rfl) ?_
    simp [go_sem]
    refine DCall_is ((rvalid_ok x.f hb).is rfl) ?_
    simp [go_sem]
    refine DCall_is (awake_ok.is rfl) ?_
    simp [go_sem, r4]
  · simp [go_sem]
    refine ACall_is (awake_ok.is rfl) ?_
    simp [go_sem, r4]

set_option maxRecDepth 100000 in
theorem flashReads_lifted (os : Os) (started : os.Started) (H : Type) (enc : TypeId × Value → H) :
    ReturnsInHanded {} Try.checked os 4 .any (Rows.flashReadsSpec.pre6 enc Try.prog Try.f4 Rows.flashReadsRow.domain false) (Rows.flashReadsSpec.post enc Try.prog Try.f4 false true false false) := by
  refine returnsInHanded_of_change (C := Try.checked) own started (by kernel_rfl) Try.func4
    (ChangeSpec.witness6 (enc := enc) (C := Try.checked) false ⟨#[], #[.agg #[.slice none 0 0, .int .i64 0, .bool false, .int .i64 0, .int .i64 0, .string ⟨#[]⟩, .int .i64 0, .int .i64 0]], []⟩ 8 (by kernel_rfl) (by kernel_rfl) (by kernel_rfl) (by kernel_rfl)) ?_
  intro W base args ds gs before hval0 hW0 _ _
  have hval : ∀ (j : Nat) t v, Try.f4.params[j]? = some t → args[j]? = some v → Value.okWide Try.prog W .any base t v := hval0
  have hW : DataW.Whole enc Try.prog Try.f4.params.toList Rows.flashReadsSpec.vars false W args.toList ds gs before := hW0
  refine law_contract (tb := 4) (pars := [(true, useSch)]) laid rfl (by kernel_rfl) Try.underlying4 (by kernel_rfl) (by kernel_rfl) (fun ds h => ?_) (fun us hus => ?_) W base args ds gs before hval hW
  · match ds, h with
    | [d], _ => rfl
  · obtain ⟨x, rfl, hb⟩ := use_of hus
    exact reads_ok x hb

theorem flashReads : Rows.FlashReadsSaid :=
  OpenClaim.holds_of_wide 4 Try.f4 rfl rfl rfl rfl rfl rfl rfl ⟨rfl, rfl, rfl, rfl, rfl⟩ rfl rfl rfl rfl rfl (by kernel_rfl) Try.func4 (by kernel_rfl)
    (of_decide_eq_true (by kernel_rfl)) (by unfold Func.isWrapper; first | (rw [if_pos (by decide +kernel)]; kernel_rfl) | (rw [if_neg (by decide +kernel)]; exact ⟨rfl, rfl⟩))
    (fun os started H enc _ => flashReads_lifted os started H enc)
end Go.Proofs.Ytedcbjgnidjidaa
