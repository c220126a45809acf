/- What the library's comparison of numbers does to values. -/
import Derived.Test.YtkefjgfcbcpcbaaGoCs
import Derived.Test.YtkefjgfcbcpcbaaAbsST
set_option linter.unusedVariables false
set_option linter.unusedSimpArgs false
namespace Go.Abs

def cmpI (x y : Int) : Int := if x < y then -1 else if y < x then 1 else 0
def CmpC (P : Program) (f : FuncId) : Prop := ∀ x y : Int, CallIs P f [.i .i64 x, .i .i64 y] (.i .i64 (cmpI x y))
def NaNC (P : Program) (f : FuncId) : Prop := ∀ x : Int, CallIs P f [.i .i64 x] (.b false)
theorem cmpI_lt (x y : Int) : decide (cmpI x y < 0) = decide (x < y) := by
  unfold cmpI
  by_cases h1 : x < y
  · simp [h1]
  · by_cases h2 : y < x <;> simp [h1, h2]

section
variable {P : Program} (hm : P.follows .mixedOrders = true)
include hm

theorem isNaN_ok {f : FuncId} (hf : FnOk P f cmp_isNaN_int.c cmp_isNaN_int.r cmp_isNaN_int.n) : NaNC P f := by
  intro x
  refine PureC.is (pure_of hm hf (Nat.le_of_ble_eq_true rfl) ?_) rfl
  unfold cmp_isNaN_int.c
  simp [go_sem, cmp_isNaN_int.r]
theorem Compare_ok {f fn : FuncId} (hf : FnOk P f (cmp_Compare_int.c fn) cmp_Compare_int.r cmp_Compare_int.n) (hn : NaNC P fn) : CmpC P f := by
  intro x y
  refine PureC.is (pure_of hm hf (Nat.le_of_ble_eq_true rfl) ?_) rfl
  unfold cmp_Compare_int.c
  simp [go_sem]
  refine ACall_is (hn x) ?_
  simp [go_sem]
  refine ACall_is (hn y) ?_
  by_cases h1 : x < y
  · simp [go_sem, h1, cmp_Compare_int.r, cmpI]
  · by_cases h2 : y < x <;> simp [go_sem, h1, h2, cmp_Compare_int.r, cmpI]
end
end Go.Abs

