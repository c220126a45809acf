/- The examples of the flash chapter, run: they come out true. -/
import Derived.Test.YtedcbjgnidjidaaFlNew
set_option linter.unusedVariables false
set_option linter.unusedSimpArgs false
namespace Go.Proofs.Ytedcbjgnidjidaa
open Go.Abs

def tbl : Tbl
  | 19 => some (c19, r19, 52, false)
  | 21 => some (c21, r21, 84, false)
  | 17 => some (c17, r17, 25, false)
  | 26 => some (c26, r26, 65, false)
  | 32 => some (c32, r32, 18, false)
  | 28 => some (c28, r28, 32, false)
  | 23 => some (c23, r23, 17, false)
  | 29 => some (c29, r29, 12, false)
  | 20 => some (c20, r20, 46, false)
  | 50 => some (c50, r50, 9, true)
  | 49 => some (c49, r49, 18, false)
  | _ => none
theorem tbl_ok : ∀ f c rs n b, tbl f = some (c, rs, n, b) → FnOk Try.prog f c rs n ∧ callable Try.prog f = true := by
  intro f c rs n b h
  unfold tbl at h
  split at h
  · simp only [Option.some.injEq, Prod.mk.injEq] at h; obtain ⟨rfl, rfl, rfl, rfl⟩ := h; exact ⟨ok19, by kernel_rfl⟩
  · simp only [Option.some.injEq, Prod.mk.injEq] at h; obtain ⟨rfl, rfl, rfl, rfl⟩ := h; exact ⟨ok21, by kernel_rfl⟩
  · simp only [Option.some.injEq, Prod.mk.injEq] at h; obtain ⟨rfl, rfl, rfl, rfl⟩ := h; exact ⟨ok17, by kernel_rfl⟩
  · simp only [Option.some.injEq, Prod.mk.injEq] at h; obtain ⟨rfl, rfl, rfl, rfl⟩ := h; exact ⟨ok26, by kernel_rfl⟩
  · simp only [Option.some.injEq, Prod.mk.injEq] at h; obtain ⟨rfl, rfl, rfl, rfl⟩ := h; exact ⟨ok32, by kernel_rfl⟩
  · simp only [Option.some.injEq, Prod.mk.injEq] at h; obtain ⟨rfl, rfl, rfl, rfl⟩ := h; exact ⟨ok28, by kernel_rfl⟩
  · simp only [Option.some.injEq, Prod.mk.injEq] at h; obtain ⟨rfl, rfl, rfl, rfl⟩ := h; exact ⟨ok23, by kernel_rfl⟩
  · simp only [Option.some.injEq, Prod.mk.injEq] at h; obtain ⟨rfl, rfl, rfl, rfl⟩ := h; exact ⟨ok29, by kernel_rfl⟩
  · simp only [Option.some.injEq, Prod.mk.injEq] at h; obtain ⟨rfl, rfl, rfl, rfl⟩ := h; exact ⟨ok20, by kernel_rfl⟩
  · simp only [Option.some.injEq, Prod.mk.injEq] at h; obtain ⟨rfl, rfl, rfl, rfl⟩ := h; exact ⟨ok50, by kernel_rfl⟩
  · simp only [Option.some.injEq, Prod.mk.injEq] at h; obtain ⟨rfl, rfl, rfl, rfl⟩ := h; exact ⟨ok49, by kernel_rfl⟩
  · simp at h
def isT : Option V → Bool
  | some (.b true) => true
  | _ => false
theorem awake_run : isT (runP tbl 5000 21 []) = true := by kernel_rfl
theorem isT_ok {o : Option V} (h : isT o = true) : o = some (.b true) := by
  unfold isT at h; split at h <;> simp_all
theorem awake_ok : PureC Try.prog 21 [] (· = .b true) := (runF_ok (by rfl) tbl_ok 5000).2 21 [] _ (isT_ok awake_run)

theorem same_nil : PureC Try.prog 19 [nilFl, nilFl] (· = .b true) := (runF_ok (by rfl) tbl_ok 100).2 19 _ _ (isT_ok (by kernel_rfl))
def isF : Option V → Bool
  | some (.b false) => true
  | _ => false
theorem isF_ok {o : Option V} (h : isF o = true) : o = some (.b false) := by
  unfold isF at h; split at h <;> simp_all
theorem valid_nil : PureC Try.prog 20 [nilFl] (· = .b false) := (runF_ok (by rfl) tbl_ok 100).2 20 _ _ (isF_ok (by kernel_rfl))

theorem own : ownKnob Try.prog.godebug = none := by kernel_rfl
theorem laid : laidOutB Try.prog = true := by kernel_rfl
end Go.Proofs.Ytedcbjgnidjidaa
