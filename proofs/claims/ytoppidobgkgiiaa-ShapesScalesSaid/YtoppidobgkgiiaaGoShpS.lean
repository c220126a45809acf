/- What the reference's rounding does to values. -/
import Derived.Test.YtoppidobgkgiiaaGoShpQ
set_option linter.unusedVariables false
set_option linter.unusedSimpArgs false
namespace Go.Abs

def SizeC (P : Program) (f : FuncId) : Prop := ∀ n : Int, 0 ≤ n → n ≤ 9223372036854775807 → CallIs P f [.i .i64 n] (.i .u64 n)

theorem wrapU64 {z : Int} (h1 : 0 ≤ z) (h2 : z ≤ 18446744073709551615) : IntKind.u64.wrap z = z := by
  simp only [IntKind.wrap, IntKind.bits, IntKind.signed]
  simp
  omega

section
variable {P : Program} (hm : P.follows .mixedOrders = true)
include hm

theorem ref01_Floor_ok {f : FuncId} (hf : FnOk P f ref01_Floor.c ref01_Floor.r ref01_Floor.n) : FloorC P f := by
  intro a b h1 h2 h3 h4
  refine PureC.is (pure_of hm hf (Nat.le_of_ble_eq_true rfl) ?_) rfl
  unfold ref01_Floor.c
  have e0 : ¬ a = -9223372036854775808 := by omega
  have e1 : ¬ b = 0 := by omega
  have e2 : ¬ b = -1 := by omega
  have e3 : ¬ b < 0 := by omega
  have hq1 : -9007199254740992 ≤ a.tdiv b := by
    have := Int.natAbs_tdiv_le_natAbs a b
    omega
  have hq2 : a.tdiv b ≤ 9007199254740992 := by
    have := Int.natAbs_tdiv_le_natAbs a b
    omega
  have hdm := Int.mul_tdiv_add_tmod a b
  have hm1 := Int.tmod_lt_of_pos a h3
  have hlo : -b < a.tmod b := by
    have h8 : (a.tmod b).natAbs = a.natAbs % b.natAbs := Int.natAbs_tmod a b
    have := Nat.mod_lt a.natAbs (show 0 < b.natAbs by omega)
    omega
  have b0 : (a == -9223372036854775808) = false := by simpa using e0
  have b1 : (b == 0) = false := by simpa using e1
  have w1 := wrap64_small (z := a.tdiv b) (by omega) (by omega)
  have w2 := wrap64_small (z := a.tdiv b - 1) (by omega) (by omega)
  by_cases hr : a.tmod b = 0
  · have hr' : (a.tmod b != 0) = false := by simpa using hr
    simp [go_sem, b0, b1, e0, e1, e2, e3, ref01_Floor.r, w1, hr, hr']
    rw [hr] at hdm
    rw [← hdm, Int.add_zero, Int.mul_tdiv_cancel_left _ e1, Int.mul_ediv_cancel_left _ e1]
  · have hr' : (a.tmod b != 0) = true := by simpa using hr
    by_cases hn : a < 0
    · simp [go_sem, b0, b1, e0, e1, e2, e3, ref01_Floor.r, w1, w2, hr, hr', hn]
      have hneg : a.tmod b ≤ 0 := by
        have := Int.tmod_nonneg (a := -a) b (by omega)
        rw [Int.neg_tmod] at this
        omega
      refine ((Int.ediv_emod_unique h3 (a := a) (q := a.tdiv b - 1) (r := b + a.tmod b)).2 ⟨?_, by omega, by omega⟩).1.symm
      rw [Int.mul_sub]
      omega
    · simp [go_sem, b0, b1, e0, e1, e2, e3, ref01_Floor.r, w1, w2, hr, hr', hn]
      exact Int.tdiv_eq_ediv_of_nonneg (by omega)

theorem ref01_size_ok {f : FuncId} (hf : FnOk P f ref01_size.c ref01_size.r ref01_size.n) : SizeC P f := by
  intro n h1 h2
  refine PureC.is (pure_of hm hf (Nat.le_of_ble_eq_true rfl) ?_) rfl
  unfold ref01_size.c
  simp [go_sem, show ¬ n < 0 by omega, ref01_size.r]
  exact wrapU64 (by omega) (by omega)

theorem ref01_Round_ok {f ff fs : FuncId} (hf : FnOk P f (ref01_Round.c ff fs) ref01_Round.r ref01_Round.n) (hfl : FloorC P ff) (hsz : SizeC P fs) : RoundC P f := by
  intro a b h1 h2 h3 h4
  refine PureC.is (pure_of hm hf (Nat.le_of_ble_eq_true rfl) ?_) rfl
  unfold ref01_Round.c
  have h5 := Int.mul_ediv_add_emod a b
  have h6 := Int.emod_nonneg a (show b ≠ 0 by omega)
  have h7 := Int.emod_lt_of_pos a h3
  have h8 : a / b * b = b * (a / b) := Int.mul_comm _ _
  have h9 : -9007199254740992 ≤ a / b := by
    refine Int.le_ediv_of_mul_le h3 ?_
    have := Int.mul_le_mul_of_nonneg_left (show (1 : Int) ≤ b by omega) (show (0 : Int) ≤ 9007199254740992 by omega)
    omega
  have h10 : a / b ≤ 9007199254740992 := by
    refine Int.ediv_le_of_le_mul h3 ?_
    have := Int.mul_le_mul_of_nonneg_left (show (1 : Int) ≤ b by omega) (show (0 : Int) ≤ 9007199254740992 by omega)
    omega
  simp [go_sem]
  refine ACall_is (hfl a b h1 h2 h3 h4) ?_
  have w1 := wrap64_small (z := a / b * b) (by omega) (by omega)
  have w2 := wrap64_small (z := a - a / b * b) (by omega) (by omega)
  have w3 := wrap64_small (z := a / b + 1) (by omega) (by omega)
  have w4 : IntKind.u64.wrap (b - (a - a / b * b)) = b - (a - a / b * b) := wrapU64 (by omega) (by omega)
  simp [go_sem, w1, w2]
  refine ACall_is (hsz (a - a / b * b) (by omega) (by omega)) ?_
  simp [go_sem]
  refine ACall_is (hsz b (by omega) (by omega)) ?_
  rw [rnd_eq a h3]
  by_cases hc : b - (a - a / b * b) ≤ a - a / b * b
  · simp [go_sem, ref01_Round.r, hc, w3, w4]
  · simp [go_sem, ref01_Round.r, hc, w3, w4]
end
end Go.Abs

