/- The examples of the flash chapter, run: they come out true. -/
import Derived.Test.YtedcbjgnidjidaaFlNew
set_option linter.unusedVariables false
set_option linter.unusedSimpArgs false
namespace Go.Proofs.Ytedcbjgnidjidaa
open Go.Abs

def tbl : FuncId → Option (C × List Rr × Nat × Bool)
  | 19 => some (c19, r19, 52, false)
  | 21 => some (c21, r21, 84, false)
  | 17 => some (c17, r17, 25, false)
  | 26 => some (c26, r26, 65, false)
  | 32 => some (c32, r32, 18, false)
  | 28 => some (c28, r28, 32, false)
  | 23 => some (c23, r23, 17, false)
  | 29 => some (c29, r29, 12, false)
  | 20 => some (c20, r20, 46, false)
  | 50 => some (c50, r50, 9, true)
  | 49 => some (c49, r49, 18, false)
  | _ => none
theorem tbl_ok : ∀ f c rs n b, tbl f = some (c, rs, n, b) → FnOk Try.prog f c rs n := by
  intro f c rs n b h
  unfold tbl at h
  split at h
  · simp only [Option.some.injEq, Prod.mk.injEq] at h; obtain ⟨rfl, rfl, rfl, rfl⟩ := h; exact ok19
  · simp only [Option.some.injEq, Prod.mk.injEq] at h; obtain ⟨rfl, rfl, rfl, rfl⟩ := h; exact ok21
  · simp only [Option.some.injEq, Prod.mk.injEq] at h; obtain ⟨rfl, rfl, rfl, rfl⟩ := h; exact ok17
  · simp only [Option.some.injEq, Prod.mk.injEq] at h; obtain ⟨rfl, rfl, rfl, rfl⟩ := h; exact ok26
  · simp only [Option.some.injEq, Prod.mk.injEq] at h; obtain ⟨rfl, rfl, rfl, rfl⟩ := h; exact ok32
  · simp only [Option.some.injEq, Prod.mk.injEq] at h; obtain ⟨rfl, rfl, rfl, rfl⟩ := h; exact ok28
  · simp only [Option.some.injEq, Prod.mk.injEq] at h; obtain ⟨rfl, rfl, rfl, rfl⟩ := h; exact ok23
  · simp only [Option.some.injEq, Prod.mk.injEq] at h; obtain ⟨rfl, rfl, rfl, rfl⟩ := h; exact ok29
  · simp only [Option.some.injEq, Prod.mk.injEq] at h; obtain ⟨rfl, rfl, rfl, rfl⟩ := h; exact ok20
  · simp only [Option.some.injEq, Prod.mk.injEq] at h; obtain ⟨rfl, rfl, rfl, rfl⟩ := h; exact ok50
  · simp only [Option.some.injEq, Prod.mk.injEq] at h; obtain ⟨rfl, rfl, rfl, rfl⟩ := h; exact ok49
  · simp at h
def isT : Option Rt → Bool
  | some (.p (.b true)) => true
  | _ => false
theorem awake_run : isT (runF tbl 5000 21 []) = true := by kernel_rfl
theorem isT_ok {o : Option Rt} (h : isT o = true) : o = some (.p (.b true)) := by
  unfold isT at h; split at h <;> simp_all
theorem awake_ok : PureC Try.prog 21 [] (· = .b true) := (runF_ok (by rfl) tbl_ok 5000 21 []).1 _ (isT_ok awake_run)

theorem same_nil : PureC Try.prog 19 [nilFl, nilFl] (· = .b true) := (runF_ok (by rfl) tbl_ok 100 19 _).1 _ (isT_ok (by kernel_rfl))
def isF : Option Rt → Bool
  | some (.p (.b false)) => true
  | _ => false
theorem isF_ok {o : Option Rt} (h : isF o = true) : o = some (.p (.b false)) := by
  unfold isF at h; split at h <;> simp_all
theorem valid_nil : PureC Try.prog 20 [nilFl] (· = .b false) := (runF_ok (by rfl) tbl_ok 100 20 _).1 _ (isF_ok (by kernel_rfl))

theorem own : ownKnob Try.prog.godebug = none := by kernel_rfl
theorem laid : laidOutB Try.prog = true := by kernel_rfl
end Go.Proofs.Ytedcbjgnidjidaa
