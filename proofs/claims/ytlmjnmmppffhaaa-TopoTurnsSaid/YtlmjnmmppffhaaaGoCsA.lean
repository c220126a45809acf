/- Part of the abstract machine on which the proof stands: its values, code and their soundness against the model. -/
import Derived.Test.YtlmjnmmppffhaaaAbsZF
import Derived.Test.YtlmjnmmppffhaaaAbsST
set_option linter.unusedVariables false
set_option linter.unusedSimpArgs false
namespace Go.Abs

def cmp_Compare_int.c (cmp_isNaN_int : FuncId) : C :=
 (.seq
  (.reg [
    ⟨(some 4), none, .mv (.c (.i .i64 0))⟩])
  (.seq
   (.reg [
     ⟨(some 7), none, .mv (.t 0)⟩,
     ⟨(some 8), none, .call cmp_isNaN_int [(.t 7)]⟩,
     ⟨(some 5), none, .mv (.t 8)⟩])
   (.seq
    (.reg [
      ⟨(some 9), none, .mv (.t 1)⟩,
      ⟨(some 10), none, .call cmp_isNaN_int [(.t 9)]⟩,
      ⟨(some 6), none, .mv (.t 10)⟩])
    (.seq
     (.seq
      (.reg [
        ⟨(some 11), none, .mv (.t 5)⟩])
      (.ite (.t 11)
       (.seq
        (.seq
         (.reg [
           ⟨(some 12), none, .mv (.t 6)⟩])
         (.ite (.t 12)
          (.seq
           (.reg [
             ⟨(some 4), none, .mv (.c (.i .i64 0))⟩])
           .ret)
          .skip))
        (.seq
         (.reg [
           ⟨(some 4), none, .mv (.c (.i .i64 (-1)))⟩])
         .ret))
       .skip))
     (.seq
      (.seq
       (.reg [
         ⟨(some 13), none, .mv (.t 6)⟩])
       (.ite (.t 13)
        (.seq
         (.reg [
           ⟨(some 4), none, .mv (.c (.i .i64 1))⟩])
         .ret)
        .skip))
      (.seq
       (.seq
        (.reg [
          ⟨(some 14), none, .mv (.t 0)⟩,
          ⟨(some 15), none, .mv (.t 1)⟩,
          ⟨(some 16), none, .bin .lss (.t 14) (.t 15)⟩])
        (.ite (.t 16)
         (.seq
          (.reg [
            ⟨(some 4), none, .mv (.c (.i .i64 (-1)))⟩])
          .ret)
         .skip))
       (.seq
        (.seq
         (.reg [
           ⟨(some 17), none, .mv (.t 0)⟩,
           ⟨(some 18), none, .mv (.t 1)⟩,
           ⟨(some 19), none, .bin .gtr (.t 17) (.t 18)⟩])
         (.ite (.t 19)
          (.seq
           (.reg [
             ⟨(some 4), none, .mv (.c (.i .i64 1))⟩])
           .ret)
          .skip))
        (.seq
         (.reg [
           ⟨(some 4), none, .mv (.c (.i .i64 0))⟩])
         .ret))))))))
def cmp_Compare_int.r : List Rr := [.tmp 4]
abbrev cmp_Compare_int.n : Nat := 20
def cmp_isNaN_int.c : C :=
 (.seq
  (.reg [
    ⟨(some 2), none, .mv (.c (.b false))⟩])
  (.seq
   (.reg [
     ⟨(some 3), none, .mv (.t 0)⟩,
     ⟨(some 4), none, .mv (.t 0)⟩,
     ⟨(some 5), none, .bin .neq (.t 3) (.t 4)⟩,
     ⟨(some 2), none, .mv (.t 5)⟩])
   .ret))
def cmp_isNaN_int.r : List Rr := [.tmp 2]
abbrev cmp_isNaN_int.n : Nat := 6
def cmp_Or_int.c : C :=
 (.seq
  (.reg [
    ⟨(some 2), none, .mv (.c (.i .i64 0))⟩])
  (.seq
   (.reg [
     ⟨(some 3), none, .mv (.c (.i .i64 0))⟩])
   (.seq
    (.seq
     (.reg [
       ⟨(some 6), none, .mv (.t 0)⟩,
       ⟨(some 7), none, .len 0 (.t 6)⟩,
       ⟨(some 8), none, .mv (.c (.i .i64 0))⟩])
     (.blk 0
      (.loop
       (.seq
        (.reg [
          ⟨(some 9), none, .bin .lss (.t 8) (.t 7)⟩])
        (.seq
         (.ite (.t 9)
          .skip
          (.exit 0))
         (.seq
          (.blk 1
           (.seq
            (.reg [
              ⟨(some 10), none, .ia 1 (.t 6) (.t 8)⟩,
              ⟨(some 11), none, .ld none (.t 10)⟩,
              ⟨(some 5), none, .mv (.t 11)⟩])
            (.seq
             (.reg [
               ⟨(some 12), none, .mv (.t 5)⟩,
               ⟨(some 13), none, .mv (.t 3)⟩,
               ⟨(some 14), none, .bin .neq (.t 12) (.t 13)⟩])
             (.ite (.t 14)
              (.seq
               (.reg [
                 ⟨(some 15), none, .mv (.t 5)⟩,
                 ⟨(some 2), none, .mv (.t 15)⟩])
               .ret)
              .skip))))
          (.reg [
            ⟨(some 16), none, .bin .add (.t 8) (.c (.i .i64 1))⟩,
            ⟨(some 8), none, .mv (.t 16)⟩])))))))
    (.seq
     (.reg [
       ⟨(some 17), none, .mv (.t 3)⟩,
       ⟨(some 2), none, .mv (.t 17)⟩])
     .ret))))
def cmp_Or_int.r : List Rr := [.tmp 2]
abbrev cmp_Or_int.n : Nat := 18

end Go.Abs

set_option linter.unusedVariables false
set_option linter.unusedSimpArgs false
namespace Go.Abs

def cmpI (x y : Int) : Int := if x < y then -1 else if y < x then 1 else 0
def CmpC (P : Program) (f : FuncId) : Prop := ∀ x y : Int, CallIs P f [.i .i64 x, .i .i64 y] (.i .i64 (cmpI x y))
def NaNC (P : Program) (f : FuncId) : Prop := ∀ x : Int, CallIs P f [.i .i64 x] (.b false)
theorem cmpI_lt (x y : Int) : decide (cmpI x y < 0) = decide (x < y) := by
  unfold cmpI
  by_cases h1 : x < y
  · simp [h1]
  · by_cases h2 : y < x <;> simp [h1, h2]

section
variable {P : Program} (hm : P.follows .mixedOrders = true)
include hm

theorem isNaN_ok {f : FuncId} (hf : FnOk P f cmp_isNaN_int.c cmp_isNaN_int.r cmp_isNaN_int.n) : NaNC P f := by
  intro x
  refine PureC.is (pure_of hm hf (Nat.le_of_ble_eq_true rfl) ?_) rfl
  unfold cmp_isNaN_int.c
  simp [go_sem, cmp_isNaN_int.r]
theorem Compare_ok {f fn : FuncId} (hf : FnOk P f (cmp_Compare_int.c fn) cmp_Compare_int.r cmp_Compare_int.n) (hn : NaNC P fn) : CmpC P f := by
  intro x y
  refine PureC.is (pure_of hm hf (Nat.le_of_ble_eq_true rfl) ?_) rfl
  unfold cmp_Compare_int.c
  simp [go_sem]
  refine ACall_is (hn x) ?_
  simp [go_sem]
  refine ACall_is (hn y) ?_
  by_cases h1 : x < y
  · simp [go_sem, h1, cmp_Compare_int.r, cmpI]
  · by_cases h2 : y < x <;> simp [go_sem, h1, h2, cmp_Compare_int.r, cmpI]
end
end Go.Abs

