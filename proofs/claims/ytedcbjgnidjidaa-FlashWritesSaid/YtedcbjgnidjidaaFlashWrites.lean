/- PROVED: FlashWrites returns true for every memory, index, data and numbers; no condition. -/
import Derived.Test.YtedcbjgnidjidaaFlRun
import Derived.Test.YtedcbjgnidjidaaFlW
import Derived.ProofKit
set_option linter.unusedVariables false
set_option linter.unusedSimpArgs false
namespace Go.Proofs.Ytedcbjgnidjidaa
open Go.Abs Go.RowKit

theorem write_len (f : Fl) (i : Int) (d : List UInt8) : (f.write i d).1.pages.length = f.pages.length := by
  unfold Fl.write
  split
  · split
    · rfl
    · split <;> simp
  · rfl

theorem heavy_len {x : Use} (h : x.heavy = false) : x.f.pages.length ≤ 259 := by
  simp [Use.heavy] at h
  omega

theorem writes_ok (x : Use) (hb : x.f.pages.length ≤ 9223372036854775807) : PureC Try.prog 5 [x.enc] (· = .b true) := by
  refine pure_of mix ok5 (by simp) ?_
  unfold c5
  simp [go_sem, Use.enc, encP]
  refine ACall_is ((heavy_ok x).is rfl) ?_
  cases hh : x.heavy
  · have hl := heavy_len hh
    simp [go_sem]
    refine ACall_is ((write_ok x.f x.i x.data (by omega)).is rfl) ?_
    simp [go_sem, Fl.enc, encP]
    refine ACall_is ((rwrite_ok x.f x.i x.data (by omega)).is rfl) ?_
    simp [go_sem, Fl.enc, encP]
    refine ACall_is ((same_ok (x.f.write x.i x.data).1 (by rw [write_len]; omega)).is rfl) ?_
    simp [go_sem]
    refine ACall_is (awake_ok.is rfl) ?_
    simp [go_sem, r5]
  · simp [go_sem]
    refine ACall_is (awake_ok.is rfl) ?_
    simp [go_sem, r5]

set_option maxRecDepth 100000 in
theorem flashWrites_lifted (os : Os) (started : os.Started) (H : Type) (enc : TypeId × Value → H) :
    ReturnsInHanded {} Try.checked os 5 .any (Rows.flashWritesSpec.pre6 enc Try.prog Try.f5 Rows.flashWritesRow.domain false) (Rows.flashWritesSpec.post enc Try.prog Try.f5 false true false false) := by
  refine returnsInHanded_of_change (C := Try.checked) own started (by kernel_rfl) Try.func5
    (ChangeSpec.witness6 (enc := enc) (C := Try.checked) false ⟨#[], #[.agg #[.slice none 0 0, .int .i64 0, .bool false, .int .i64 0, .int .i64 0, .string ⟨#[]⟩, .int .i64 0, .int .i64 0]], []⟩ 8 (by kernel_rfl) (by kernel_rfl) (by kernel_rfl) (by kernel_rfl)) ?_
  intro W base args ds gs before hval0 hW0 _ _
  have hval : ∀ (j : Nat) t v, Try.f5.params[j]? = some t → args[j]? = some v → Value.okWide Try.prog W .any base t v := hval0
  have hW : DataW.Whole enc Try.prog Try.f5.params.toList Rows.flashWritesSpec.vars false W args.toList ds gs before := hW0
  refine law_contract (tb := 4) (pars := [(true, useSch)]) laid rfl (by kernel_rfl) Try.underlying4 (by kernel_rfl) (by kernel_rfl) (fun ds h => ?_) (fun us hus => ?_) W base args ds gs before hval hW
  · match ds, h with
    | [d], _ => rfl
  · obtain ⟨x, rfl, hb⟩ := use_of hus
    exact writes_ok x hb

theorem flashWrites : Rows.FlashWritesSaid :=
  OpenClaim.holds_of_wide 5 Try.f5 rfl rfl rfl rfl rfl rfl rfl ⟨rfl, rfl, rfl, rfl, rfl⟩ rfl rfl rfl rfl rfl (by kernel_rfl) Try.func5 (by kernel_rfl)
    (of_decide_eq_true (by kernel_rfl)) (by unfold Func.isWrapper; first | (rw [if_pos (by decide +kernel)]; kernel_rfl) | (rw [if_neg (by decide +kernel)]; exact ⟨rfl, rfl⟩))
    (fun os started H enc _ => flashWrites_lifted os started H enc)
end Go.Proofs.Ytedcbjgnidjidaa
