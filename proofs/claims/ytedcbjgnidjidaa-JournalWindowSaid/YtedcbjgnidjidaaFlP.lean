/- What failing and power of the flash memory do to values. -/
import Derived.Test.YtedcbjgnidjidaaFlW
set_option linter.unusedVariables false
set_option linter.unusedSimpArgs false
namespace Go.Proofs.Ytedcbjgnidjidaa
open Go.Abs

def Fl.fail (f : Fl) (n k : Int) : Fl :=
  if f.dead = true ∨ f.valid = false then f
  else if n < 1 then ⟨f.pages, 0, true, 0⟩
  else ⟨f.pages, min n 1048576, false, max 0 (min k 64)⟩

def Fl.power (f : Fl) : Fl := if f.valid = true then ⟨f.pages, 0, false, 0⟩ else f

theorem min_if (a b : Int) : (if b < a then b else a) = min a b := by split <;> omega
theorem max_if (a b : Int) : (if a < b then b else a) = max a b := by split <;> omega

theorem fail_ok (f : Fl) (n k : Int) (hb : f.pages.length ≤ 8796093022208) : PureC Try.prog 28 [f.enc, .i .i64 n, .i .i64 k] (· = (f.fail n k).enc) := by
  refine pure_of mix ok28 (by simp) ?_
  unfold c28
  simp [go_sem, Fl.enc, encP]
  refine ACall_new (copied_ok f hb) rfl ?_
  rw [own_sh, ownH_sh]
  cases hd : f.dead
  · simp [go_sem, Fl.ownH, hd]
    have hval := (valid_ok f (by omega)).is rfl
    rw [Fl.enc, encP, hd] at hval
    refine ACall_is hval ?_
    cases hv : f.valid
    · simp [go_sem, hd, r28, Fl.fail, hv, List.take_of_length_le]
    · by_cases h1 : n < 1
      · simp [go_sem, hd, r28, Fl.fail, hv, List.take_of_length_le, h1]
      · simp [go_sem, hd, r28, Fl.fail, hv, List.take_of_length_le, h1]
        simp [min_if, max_if]
  · simp [go_sem, Fl.ownH, hd, r28, Fl.fail, List.take_of_length_le]

theorem power_ok (f : Fl) (hb : f.pages.length ≤ 8796093022208) : PureC Try.prog 29 [f.enc] (· = f.power.enc) := by
  refine pure_of mix ok29 (by simp) ?_
  unfold c29
  simp [go_sem, Fl.enc, encP]
  refine ACall_new (copied_ok f hb) rfl ?_
  rw [own_sh, ownH_sh]
  simp [go_sem, Fl.ownH]
  refine ACall_is ((valid_ok f (by omega)).is rfl) ?_
  cases hv : f.valid <;> simp [go_sem, r29, Fl.power, hv, List.take_of_length_le]

theorem rfail_ok (f : Fl) (n k : Int) (hb : f.pages.length ≤ 8796093022208) : PureC Try.prog 30 [f.enc, .i .i64 n, .i .i64 k] (· = (f.fail n k).enc) := by
  refine pure_of mix ok30 (by simp) ?_
  unfold c30
  simp [go_sem, Fl.enc, encP]
  refine ACall_new (again_ok f hb) rfl ?_
  rw [own_sh, ownH_sh]
  simp [go_sem, Fl.ownH]
  refine ACall_is ((rvalid_ok f (by omega)).is rfl) ?_
  cases hd : f.dead
  · cases hv : f.valid
    · simp [go_sem, hd, r30, Fl.fail, hv, List.take_of_length_le]
    · by_cases h1 : n < 1
      · simp [go_sem, hd, r30, Fl.fail, hv, List.take_of_length_le, h1]
      · simp [go_sem, hd, r30, Fl.fail, hv, List.take_of_length_le, h1]
        simp [min_if, max_if]
  · cases hv : f.valid <;> simp [go_sem, hd, r30, Fl.fail, hv, List.take_of_length_le]

theorem rpower_ok (f : Fl) (hb : f.pages.length ≤ 8796093022208) : PureC Try.prog 31 [f.enc] (· = f.power.enc) := by
  refine pure_of mix ok31 (by simp) ?_
  unfold c31
  simp [go_sem, Fl.enc, encP]
  refine ACall_new (again_ok f hb) rfl ?_
  rw [own_sh, ownH_sh]
  simp [go_sem, Fl.ownH]
  refine ACall_is ((rvalid_ok f (by omega)).is rfl) ?_
  cases hv : f.valid <;> simp [go_sem, r31, Fl.power, hv, List.take_of_length_le]

theorem fail_pages (f : Fl) (n k : Int) : (f.fail n k).pages = f.pages := by
  unfold Fl.fail; split <;> (try split) <;> rfl
theorem power_pages (f : Fl) : f.power.pages = f.pages := by
  unfold Fl.power; split <;> rfl
theorem fail_valid (f : Fl) (n k : Int) : (f.fail n k).valid = f.valid := by
  unfold Fl.fail
  split
  · rfl
  · rename_i h
    have hv : f.valid = true := by cases hv : f.valid <;> simp_all
    rw [hv]
    simp [Fl.valid] at hv
    split
    · simp [Fl.valid, hv.1]; omega
    · simp [Fl.valid, hv.1]; omega
theorem power_valid (f : Fl) : f.power.valid = f.valid := by
  unfold Fl.power
  split
  · rename_i hv
    rw [hv]
    simp [Fl.valid] at hv
    simp [Fl.valid, hv.1]; omega
  · rfl
theorem power_dead {f : Fl} (h : f.valid = true) : f.power.dead = false := by simp [Fl.power, h]
end Go.Proofs.Ytedcbjgnidjidaa
