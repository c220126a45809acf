/- What functions on points and numbers do to values. -/
import Derived.Test.YtkefjgfcbcpcbaaGoVec
set_option linter.unusedVariables false
set_option linter.unusedSimpArgs false
namespace Go.Abs

structure V3 where
  x : Int
  y : Int
  z : Int
deriving DecidableEq

def V3.cs (v : V3) : List V := [.i .i64 v.x, .i .i64 v.y, .i .i64 v.z]
def V3.enc (v : V3) : V := .a v.cs
def V3.within (v : V3) (k : Int) : Bool := decide (-k ≤ v.x) && decide (v.x ≤ k) && decide (-k ≤ v.y) && decide (v.y ≤ k) && decide (-k ≤ v.z) && decide (v.z ≤ k)
def V3.valid (v : V3) : Bool := v.within 65536

theorem V3.valid_iff {v : V3} : v.valid = true ↔ (-65536 ≤ v.x ∧ v.x ≤ 65536 ∧ -65536 ≤ v.y ∧ v.y ≤ 65536 ∧ -65536 ≤ v.z ∧ v.z ≤ 65536) := by
  simp [V3.valid, V3.within, and_assoc]

def WithinC (P : Program) (f : FuncId) : Prop := ∀ (v : V3) (k : Int), 0 ≤ k → k ≤ 4611686018427387904 → PureC P f [v.enc, .i .i64 k] (· = .b (v.within k))
def ValidC (P : Program) (f : FuncId) : Prop := ∀ v : V3, CallIs P f [v.enc] (.b v.valid)

theorem min_if (a b : Int) : (if b < a then b else a) = min a b := by split <;> omega
theorem max_if (a b : Int) : (if a < b then b else a) = max a b := by split <;> omega

/-- The nearest integer to a / b, ties upward. -/
def rnd (a b : Int) : Int := (2 * a + b) / (2 * b)

theorem rnd_eq (a : Int) {b : Int} (hb : 0 < b) : rnd a b = if b - (a - a / b * b) ≤ a - a / b * b then a / b + 1 else a / b := by
  have h1 := Int.mul_ediv_add_emod a b
  have h2 := Int.emod_nonneg a (show b ≠ 0 by omega)
  have h3 := Int.emod_lt_of_pos a hb
  have h4 : a - a / b * b = a % b := by rw [Int.mul_comm]; omega
  rw [h4]
  have h5 : 2 * b * (a / b) = 2 * (b * (a / b)) := Int.mul_assoc 2 b (a / b)
  have h6 : 2 * b * (a / b + 1) = 2 * (b * (a / b)) + 2 * b := by rw [Int.mul_add, h5, Int.mul_one]
  unfold rnd
  split
  · refine ((Int.ediv_emod_unique (show 0 < 2 * b by omega) (a := 2 * a + b) (q := a / b + 1) (r := 2 * (a % b) - b)).2 ⟨?_, by omega, by omega⟩).1
    omega
  · refine ((Int.ediv_emod_unique (show 0 < 2 * b by omega) (a := 2 * a + b) (q := a / b) (r := 2 * (a % b) + b)).2 ⟨?_, by omega, by omega⟩).1
    omega

section
variable {P : Program} (hm : P.follows .mixedOrders = true)
include hm

theorem vec_within_ok {f : FuncId} (hf : FnOk P f vec_within.c vec_within.r vec_within.n) : WithinC P f := by
  intro v k h0 h1
  refine pure_of hm hf (Nat.le_of_ble_eq_true rfl) ?_
  unfold vec_within.c
  simp +contextual -implicitDefEqProofs [go_sem, V3.enc, V3.cs, vec_within.r]
  have h : IntKind.i64.wrap (-k) = -k := wrap64_small (by omega) (by omega)
  simp [h, V3.within, and_assoc]

theorem ref04_within_ok {f : FuncId} (hf : FnOk P f ref04_within.c ref04_within.r ref04_within.n) : WithinC P f := by
  intro v k h0 h1
  refine pure_of hm hf (Nat.le_of_ble_eq_true rfl) ?_
  unfold ref04_within.c
  simp +contextual -implicitDefEqProofs [go_sem, V3.enc, V3.cs, ref04_within.r]
  have h : IntKind.i64.wrap (-k) = -k := wrap64_small (by omega) (by omega)
  simp [h, V3.within, and_assoc]

theorem vec_Valid_ok {f fw : FuncId} (hf : FnOk P f (vec_Valid.c fw) vec_Valid.r vec_Valid.n) (hw : WithinC P fw) : ValidC P f := by
  intro v
  refine PureC.is (pure_of hm hf (Nat.le_of_ble_eq_true rfl) ?_) rfl
  unfold vec_Valid.c
  simp [go_sem, V3.enc, V3.cs]
  refine ACall_is ((hw v 65536 (by omega) (by omega)).is rfl) ?_
  simp [go_sem, vec_Valid.r, V3.valid]

theorem ref04_Valid_ok {f fw : FuncId} (hf : FnOk P f (ref04_Valid.c fw) ref04_Valid.r ref04_Valid.n) (hw : WithinC P fw) : ValidC P f := by
  intro v
  refine PureC.is (pure_of hm hf (Nat.le_of_ble_eq_true rfl) ?_) rfl
  unfold ref04_Valid.c
  simp [go_sem, V3.enc, V3.cs]
  refine ACall_is ((hw v 65536 (by omega) (by omega)).is rfl) ?_
  simp [go_sem, ref04_Valid.r, V3.valid]

def FloorC (P : Program) (f : FuncId) : Prop := ∀ a b : Int, -9007199254740992 ≤ a → a ≤ 9007199254740992 → 0 < b → b ≤ 9007199254740992 → CallIs P f [.i .i64 a, .i .i64 b] (.t [.i .i64 (a / b), .i .i64 0])
def RoundC (P : Program) (f : FuncId) : Prop := ∀ a b : Int, -9007199254740992 ≤ a → a ≤ 9007199254740992 → 0 < b → b ≤ 9007199254740992 → CallIs P f [.i .i64 a, .i .i64 b] (.t [.i .i64 (rnd a b), .i .i64 0])

theorem num_Floor_ok {f : FuncId} (hf : FnOk P f num_Floor.c num_Floor.r num_Floor.n) : FloorC P f := by
  intro a b h1 h2 h3 h4
  refine PureC.is (pure_of hm hf (Nat.le_of_ble_eq_true rfl) ?_) rfl
  unfold num_Floor.c
  have e0 : ¬ a = -9223372036854775808 := by omega
  have e1 : ¬ b = 0 := by omega
  have e2 : ¬ b = -1 := by omega
  have e3 : ¬ b < 0 := by omega
  have hq1 : -9007199254740992 ≤ a.tdiv b := by
    have := Int.natAbs_tdiv_le_natAbs a b
    omega
  have hq2 : a.tdiv b ≤ 9007199254740992 := by
    have := Int.natAbs_tdiv_le_natAbs a b
    omega
  have hdm := Int.mul_tdiv_add_tmod a b
  have hm1 := Int.tmod_lt_of_pos a h3
  simp +contextual -implicitDefEqProofs [go_sem, e0, e1, e2, e3, num_Floor.r, wrap64_small (show -9223372036854775808 ≤ a.tdiv b by omega) (show a.tdiv b ≤ 9223372036854775807 by omega)]
  have hlo : -b < a.tmod b := by
    have h8 : (a.tmod b).natAbs = a.natAbs % b.natAbs := Int.natAbs_tmod a b
    have := Nat.mod_lt a.natAbs (show 0 < b.natAbs by omega)
    omega
  by_cases hr : a.tmod b = 0
  · simp [go_sem, hr]
    rw [hr] at hdm
    rw [← hdm, Int.add_zero, Int.mul_tdiv_cancel_left _ e1, Int.mul_ediv_cancel_left _ e1]
  · by_cases hn : a < 0
    · simp [go_sem, hr, hn]
      have hr' : (a.tmod b != 0) = true := by simpa using hr
      rw [wrap64_small (by omega) (by omega)]
      have hneg : a.tmod b ≤ 0 := by
        have := Int.tmod_nonneg (a := -a) b (by omega)
        rw [Int.neg_tmod] at this
        omega
      refine ⟨?_, fun hh => by omega⟩
      refine ((Int.ediv_emod_unique h3 (a := a) (q := a.tdiv b - 1) (r := b + a.tmod b)).2 ⟨?_, by omega, by omega⟩).1.symm
      rw [Int.mul_sub]
      omega
    · have hr' : (a.tmod b != 0) = true := by simpa using hr
      simp [go_sem, hr, hn, hr']
      exact fun _ => Int.tdiv_eq_ediv_of_nonneg (by omega)

theorem num_Round_ok {f ff : FuncId} (hf : FnOk P f (num_Round.c ff) num_Round.r num_Round.n) (hfl : FloorC P ff) : RoundC P f := by
  intro a b h1 h2 h3 h4
  refine PureC.is (pure_of hm hf (Nat.le_of_ble_eq_true rfl) ?_) rfl
  unfold num_Round.c
  have h5 := Int.mul_ediv_add_emod a b
  have h6 := Int.emod_nonneg a (show b ≠ 0 by omega)
  have h7 := Int.emod_lt_of_pos a h3
  have h8 : a / b * b = b * (a / b) := Int.mul_comm _ _
  have h9 : -9007199254740992 ≤ a / b := by
    refine Int.le_ediv_of_mul_le h3 ?_
    have := Int.mul_le_mul_of_nonneg_left (show (1 : Int) ≤ b by omega) (show (0 : Int) ≤ 9007199254740992 by omega)
    omega
  have h10 : a / b ≤ 9007199254740992 := by
    refine Int.ediv_le_of_le_mul h3 ?_
    have := Int.mul_le_mul_of_nonneg_left (show (1 : Int) ≤ b by omega) (show (0 : Int) ≤ 9007199254740992 by omega)
    omega
  simp [go_sem]
  refine ACall_is (hfl a b h1 h2 h3 h4) ?_
  rw [rnd_eq a h3]
  by_cases hc : b - (a - a / b * b) ≤ a - a / b * b
  all_goals
    simp [go_sem, num_Round.r, h3, hc, wrap64_small (show -9223372036854775808 ≤ a / b * b by omega) (show a / b * b ≤ 9223372036854775807 by omega),
      wrap64_small (show -9223372036854775808 ≤ a - a / b * b by omega) (show a - a / b * b ≤ 9223372036854775807 by omega), wrap64_small (show -9223372036854775808 ≤ b - (a - a / b * b) by omega) (show b - (a - a / b * b) ≤ 9223372036854775807 by omega),
      show ¬ b < 0 by omega, wrap64_small (show -9223372036854775808 ≤ a / b + 1 by omega) (show a / b + 1 ≤ 9223372036854775807 by omega)]
end
end Go.Abs

