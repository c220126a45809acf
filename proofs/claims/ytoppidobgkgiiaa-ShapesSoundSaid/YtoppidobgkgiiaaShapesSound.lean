/- PROVED: ShapesSound returns true for any solid; no condition. -/
import Derived.Test.YtoppidobgkgiiaaConF
import Derived.ProofKit
set_option linter.unusedVariables false
set_option linter.unusedSimpArgs false
namespace Go.Proofs.Ytoppidobgkgiiaa
open Go.Abs Go.RowKit

set_option maxRecDepth 100000 in
theorem shapesSound_lifted (os : Os) (started : os.Started) (H : Type) (enc : TypeId × Value → H) :
    ReturnsInHanded {} Try.checked os 8 .any (Rows.shapesSoundSpec.pre6 enc Try.prog Try.f8 Rows.shapesSoundRow.domain false) (Rows.shapesSoundSpec.post enc Try.prog Try.f8 false true false false) := by
  refine returnsInHanded_of_change (C := Try.checked) own started (by kernel_rfl) Try.func8
    (ChangeSpec.witness6 (enc := enc) (C := Try.checked) false ⟨#[], #[.agg #[.int .i64 0, .int .i64 0, .int .i64 0, .int .i64 0, .int .i64 0, .int .i64 0, .int .i64 0, .int .i64 0, .int .i64 0, .slice none 0 0, .int .i64 0, .int .i64 0]], []⟩ 8 (by kernel_rfl) (by kernel_rfl) (by kernel_rfl) (by kernel_rfl)) ?_
  intro W base args ds gs before hval0 hW0 _ _
  have hval : ∀ (j : Nat) t v, Try.f8.params[j]? = some t → args[j]? = some v → Value.okWide Try.prog W .any base t v := hval0
  have hW : DataW.Whole enc Try.prog Try.f8.params.toList Rows.shapesSoundSpec.vars false W args.toList ds gs before := hW0
  refine law_contract (tb := 4) (pars := [(true, schSo)]) laid rfl (by kernel_rfl) Try.underlying4 (by kernel_rfl) (by kernel_rfl) (fun ds h => ?_) (fun us hus => ?_) W base args ds gs before hval hW
  · match ds, h with
    | [d0], _ => rfl
  · skip
    obtain ⟨v0, r0, rfl, hr0, hu0⟩ := par_so hus
    obtain rfl := par_0 hu0
    exact ShapesSound_ok mix ok_law13_ShapesSound k_cut k_Box k_Prism k_Pyramid k_sound k_Area2 awake_ok v0 hr0.2.1 hr0.2.2.1 hr0.2.2.2.1 hr0.2.2.2.2.1

theorem shapesSound : Rows.ShapesSoundSaid :=
  OpenClaim.holds_of_wide 8 Try.f8 rfl rfl rfl rfl rfl rfl rfl ⟨rfl, rfl, rfl, rfl, rfl⟩ rfl rfl rfl rfl rfl (by kernel_rfl) Try.func8 (by kernel_rfl)
    (of_decide_eq_true (by kernel_rfl)) (by unfold Func.isWrapper; first | (rw [if_pos (by decide +kernel)]; kernel_rfl) | (rw [if_neg (by decide +kernel)]; exact ⟨rfl, rfl⟩))
    (fun os started H enc _ => shapesSound_lifted os started H enc)
end Go.Proofs.Ytoppidobgkgiiaa
