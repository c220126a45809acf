/- The code of functions of the program, as the abstract machine runs it: each is what the program's function converts to. -/
import Derived.Test.YtedcbjgnidjidaaRows
import Derived.Test.YtedcbjgnidjidaaAbsZF
set_option linter.unusedVariables false
set_option linter.unusedSimpArgs false
namespace Go.Proofs.Ytedcbjgnidjidaa
open Go.Abs

/-- additive/additivelaw51.FlashNews -/
def c3 : C :=
 (.seq
  (.reg [
    ⟨(some 2), none, .mv (.c (.b false))⟩])
  (.seq
   (.reg [
     ⟨(some 8), none, .mv (.t 0)⟩,
     ⟨(some 9), none, .call 17 [(.t 8)]⟩,
     ⟨(some 7), none, .mv (.t 9)⟩,
     ⟨(some 10), none, .ext (.t 7) 0⟩,
     ⟨(some 11), none, .ext (.t 7) 1⟩,
     ⟨(some 3), none, .alloc [.nil, (.i .i64 0), (.b false), (.i .i64 0)]⟩,
     ⟨none, none, .st 4 (.t 3) (.t 10)⟩,
     ⟨(some 4), none, .mv (.t 11)⟩])
   (.seq
    (.reg [
      ⟨(some 13), none, .mv (.t 0)⟩,
      ⟨(some 14), none, .call 18 [(.t 13)]⟩,
      ⟨(some 12), none, .mv (.t 14)⟩,
      ⟨(some 15), none, .ext (.t 12) 0⟩,
      ⟨(some 16), none, .ext (.t 12) 1⟩,
      ⟨(some 5), none, .alloc [.nil, (.i .i64 0), (.b false), (.i .i64 0)]⟩,
      ⟨none, none, .st 4 (.t 5) (.t 15)⟩,
      ⟨(some 6), none, .mv (.t 16)⟩])
    (.seq
     (.reg [
       ⟨(some 17), none, .mv (.t 4)⟩,
       ⟨(some 18), none, .mv (.t 6)⟩,
       ⟨(some 19), none, .bin .eql (.t 17) (.t 18)⟩,
       ⟨(some 20), none, .mv (.t 19)⟩,
       ⟨(some 21), (some (20, true)), .ld (some 4) (.t 3)⟩,
       ⟨(some 22), (some (20, true)), .ld (some 4) (.t 5)⟩,
       ⟨(some 23), (some (20, true)), .call 19 [(.t 21), (.t 22)]⟩,
       ⟨(some 24), none, .pick (.t 20) (.t 23) (.c (.b false))⟩,
       ⟨(some 25), none, .mv (.t 24)⟩,
       ⟨(some 26), (some (25, true)), .ld (some 4) (.t 3)⟩,
       ⟨(some 27), (some (25, true)), .call 20 [(.t 26)]⟩,
       ⟨(some 28), (some (25, true)), .mv (.t 4)⟩,
       ⟨(some 29), (some (25, true)), .bin .eql (.t 28) (.c (.i .i64 0))⟩,
       ⟨(some 30), (some (25, true)), .eqb false (.t 27) (.t 29)⟩,
       ⟨(some 31), none, .pick (.t 25) (.t 30) (.c (.b false))⟩,
       ⟨(some 32), none, .mv (.t 31)⟩,
       ⟨(some 33), (some (32, true)), .call 21 []⟩,
       ⟨(some 34), none, .pick (.t 32) (.t 33) (.c (.b false))⟩,
       ⟨(some 2), none, .mv (.t 34)⟩])
     .ret))))
def r3 : List Rr := [.tmp 2]
theorem ok3 : FnOk Try.prog 3 c3 r3 35 := ⟨Try.f3, (Try.f3.body).getD .skip, Try.func3, rfl, by kernel_rfl, by kernel_rfl, rfl⟩

/-- additive/additivelaw51.FlashReads -/
def c4 : C :=
 (.seq
  (.reg [
    ⟨(some 1), none, .box (.t 0)⟩,
    ⟨(some 2), none, .mv (.c (.b false))⟩])
  (.seq
   (.seq
    (.reg [
      ⟨(some 7), none, .ld (some 8) (.t 1)⟩,
      ⟨(some 8), none, .call 22 [(.t 7)]⟩])
    (.ite (.t 8)
     (.seq
      (.reg [
        ⟨(some 9), none, .call 21 []⟩,
        ⟨(some 2), none, .mv (.t 9)⟩])
      .ret)
     .skip))
   (.seq
    (.reg [
      ⟨(some 11), none, .fa 0 (.t 1)⟩,
      ⟨(some 12), none, .ld (some 4) (.t 11)⟩,
      ⟨(some 13), none, .fa 4 (.t 1)⟩,
      ⟨(some 14), none, .ld none (.t 13)⟩,
      ⟨(some 15), none, .call 23 [(.t 12), (.t 14)]⟩,
      ⟨(some 10), none, .mv (.t 15)⟩,
      ⟨(some 16), none, .ext (.t 10) 0⟩,
      ⟨(some 17), none, .ext (.t 10) 1⟩,
      ⟨(some 3), none, .mv (.t 16)⟩,
      ⟨(some 4), none, .mv (.t 17)⟩])
    (.seq
     (.reg [
       ⟨(some 19), none, .fa 0 (.t 1)⟩,
       ⟨(some 20), none, .ld (some 4) (.t 19)⟩,
       ⟨(some 21), none, .fa 4 (.t 1)⟩,
       ⟨(some 22), none, .ld none (.t 21)⟩,
       ⟨(some 23), none, .call 24 [(.t 20), (.t 22)]⟩,
       ⟨(some 18), none, .mv (.t 23)⟩,
       ⟨(some 24), none, .ext (.t 18) 0⟩,
       ⟨(some 25), none, .ext (.t 18) 1⟩,
       ⟨(some 5), none, .mv (.t 24)⟩,
       ⟨(some 6), none, .mv (.t 25)⟩])
     (.seq
      (.drw [
        ⟨(some 26), none, .fa 0 (.t 1)⟩,
        ⟨(some 27), none, .ld (some 4) (.t 26)⟩,
        ⟨(some 28), none, .call 20 [(.t 27)]⟩,
        ⟨(some 29), none, .fa 0 (.t 1)⟩,
        ⟨(some 30), none, .ld (some 4) (.t 29)⟩,
        ⟨(some 31), none, .call 25 [(.t 30)]⟩,
        ⟨(some 32), none, .eqb false (.t 28) (.t 31)⟩,
        ⟨(some 33), none, .mv (.t 32)⟩,
        ⟨(some 34), (some (33, true)), .mv (.t 3)⟩,
        ⟨(some 35), (some (33, true)), .mv (.t 5)⟩,
        ⟨(some 36), (some (33, true)), .bin .eql (.t 34) (.t 35)⟩,
        ⟨(some 37), none, .pick (.t 33) (.t 36) (.c (.b false))⟩,
        ⟨(some 38), none, .mv (.t 37)⟩,
        ⟨(some 39), (some (38, true)), .mv (.t 4)⟩,
        ⟨(some 40), (some (38, true)), .mv (.t 6)⟩,
        ⟨(some 41), (some (38, true)), .bin .eql (.t 39) (.t 40)⟩,
        ⟨(some 42), none, .pick (.t 38) (.t 41) (.c (.b false))⟩,
        ⟨(some 43), none, .mv (.t 42)⟩,
        ⟨(some 44), (some (43, true)), .call 21 []⟩,
        ⟨(some 45), none, .pick (.t 43) (.t 44) (.c (.b false))⟩,
        ⟨(some 2), none, .mv (.t 45)⟩] [[], [], [], [2], [2], [], [], [], [], [], [], [], [], [], [], [], [], [], [], [], []])
      .ret)))))
def r4 : List Rr := [.tmp 2]
theorem ok4 : FnOk Try.prog 4 c4 r4 46 := ⟨Try.f4, (Try.f4.body).getD .skip, Try.func4, rfl, by kernel_rfl, by kernel_rfl, rfl⟩

/-- additive/additivelaw51.FlashWrites -/
def c5 : C :=
 (.seq
  (.reg [
    ⟨(some 1), none, .box (.t 0)⟩,
    ⟨(some 2), none, .mv (.c (.b false))⟩])
  (.seq
   (.seq
    (.reg [
      ⟨(some 7), none, .ld (some 8) (.t 1)⟩,
      ⟨(some 8), none, .call 22 [(.t 7)]⟩])
    (.ite (.t 8)
     (.seq
      (.reg [
        ⟨(some 9), none, .call 21 []⟩,
        ⟨(some 2), none, .mv (.t 9)⟩])
      .ret)
     .skip))
   (.seq
    (.reg [
      ⟨(some 11), none, .fa 0 (.t 1)⟩,
      ⟨(some 12), none, .ld (some 4) (.t 11)⟩,
      ⟨(some 13), none, .fa 4 (.t 1)⟩,
      ⟨(some 14), none, .ld none (.t 13)⟩,
      ⟨(some 15), none, .fa 5 (.t 1)⟩,
      ⟨(some 16), none, .ld none (.t 15)⟩,
      ⟨(some 17), none, .call 26 [(.t 12), (.t 14), (.t 16)]⟩,
      ⟨(some 10), none, .mv (.t 17)⟩,
      ⟨(some 18), none, .ext (.t 10) 0⟩,
      ⟨(some 19), none, .ext (.t 10) 1⟩,
      ⟨(some 3), none, .alloc [.nil, (.i .i64 0), (.b false), (.i .i64 0)]⟩,
      ⟨none, none, .st 4 (.t 3) (.t 18)⟩,
      ⟨(some 4), none, .mv (.t 19)⟩])
    (.seq
     (.reg [
       ⟨(some 21), none, .fa 0 (.t 1)⟩,
       ⟨(some 22), none, .ld (some 4) (.t 21)⟩,
       ⟨(some 23), none, .fa 4 (.t 1)⟩,
       ⟨(some 24), none, .ld none (.t 23)⟩,
       ⟨(some 25), none, .fa 5 (.t 1)⟩,
       ⟨(some 26), none, .ld none (.t 25)⟩,
       ⟨(some 27), none, .call 27 [(.t 22), (.t 24), (.t 26)]⟩,
       ⟨(some 20), none, .mv (.t 27)⟩,
       ⟨(some 28), none, .ext (.t 20) 0⟩,
       ⟨(some 29), none, .ext (.t 20) 1⟩,
       ⟨(some 5), none, .alloc [.nil, (.i .i64 0), (.b false), (.i .i64 0)]⟩,
       ⟨none, none, .st 4 (.t 5) (.t 28)⟩,
       ⟨(some 6), none, .mv (.t 29)⟩])
     (.seq
      (.reg [
        ⟨(some 30), none, .mv (.t 4)⟩,
        ⟨(some 31), none, .mv (.t 6)⟩,
        ⟨(some 32), none, .bin .eql (.t 30) (.t 31)⟩,
        ⟨(some 33), none, .mv (.t 32)⟩,
        ⟨(some 34), (some (33, true)), .ld (some 4) (.t 3)⟩,
        ⟨(some 35), (some (33, true)), .ld (some 4) (.t 5)⟩,
        ⟨(some 36), (some (33, true)), .call 19 [(.t 34), (.t 35)]⟩,
        ⟨(some 37), none, .pick (.t 33) (.t 36) (.c (.b false))⟩,
        ⟨(some 38), none, .mv (.t 37)⟩,
        ⟨(some 39), (some (38, true)), .call 21 []⟩,
        ⟨(some 40), none, .pick (.t 38) (.t 39) (.c (.b false))⟩,
        ⟨(some 2), none, .mv (.t 40)⟩])
      .ret)))))
def r5 : List Rr := [.tmp 2]
theorem ok5 : FnOk Try.prog 5 c5 r5 41 := ⟨Try.f5, (Try.f5.body).getD .skip, Try.func5, rfl, by kernel_rfl, by kernel_rfl, rfl⟩

/-- additive/additivelaw51.FlashFails -/
def c6 : C :=
 (.seq
  (.reg [
    ⟨(some 1), none, .box (.t 0)⟩,
    ⟨(some 2), none, .mv (.c (.b false))⟩])
  (.seq
   (.seq
    (.reg [
      ⟨(some 6), none, .ld (some 8) (.t 1)⟩,
      ⟨(some 7), none, .call 22 [(.t 6)]⟩])
    (.ite (.t 7)
     (.seq
      (.reg [
        ⟨(some 8), none, .call 21 []⟩,
        ⟨(some 2), none, .mv (.t 8)⟩])
      .ret)
     .skip))
   (.seq
    (.drw [
      ⟨(some 9), none, .fa 0 (.t 1)⟩,
      ⟨(some 10), none, .ld (some 4) (.t 9)⟩,
      ⟨(some 11), none, .fa 6 (.t 1)⟩,
      ⟨(some 12), none, .ld none (.t 11)⟩,
      ⟨(some 13), none, .fa 7 (.t 1)⟩,
      ⟨(some 14), none, .ld none (.t 13)⟩,
      ⟨(some 15), none, .call 28 [(.t 10), (.t 12), (.t 14)]⟩,
      ⟨(some 16), none, .fa 0 (.t 1)⟩,
      ⟨(some 17), none, .ld (some 4) (.t 16)⟩,
      ⟨(some 18), none, .call 29 [(.t 17)]⟩,
      ⟨(some 3), none, .alloc [.nil, (.i .i64 0), (.b false), (.i .i64 0)]⟩,
      ⟨(some 4), none, .alloc [.nil, (.i .i64 0), (.b false), (.i .i64 0)]⟩,
      ⟨none, none, .st 4 (.t 3) (.t 15)⟩,
      ⟨none, none, .st 4 (.t 4) (.t 18)⟩] [[], [], [], [], [], [], [], [6], [6], [], [], [], [], []])
    (.seq
     (.seq
      (.drw [
        ⟨(some 19), none, .ld (some 4) (.t 3)⟩,
        ⟨(some 20), none, .fa 0 (.t 1)⟩,
        ⟨(some 21), none, .ld (some 4) (.t 20)⟩,
        ⟨(some 22), none, .fa 6 (.t 1)⟩,
        ⟨(some 23), none, .ld none (.t 22)⟩,
        ⟨(some 24), none, .fa 7 (.t 1)⟩,
        ⟨(some 25), none, .ld none (.t 24)⟩,
        ⟨(some 26), none, .call 30 [(.t 21), (.t 23), (.t 25)]⟩,
        ⟨(some 27), none, .call 19 [(.t 19), (.t 26)]⟩,
        ⟨(some 28), none, .un .not (.t 27)⟩,
        ⟨(some 29), none, .mv (.t 28)⟩,
        ⟨(some 30), (some (29, false)), .ld (some 4) (.t 4)⟩,
        ⟨(some 31), (some (29, false)), .fa 0 (.t 1)⟩,
        ⟨(some 32), (some (29, false)), .ld (some 4) (.t 31)⟩,
        ⟨(some 33), (some (29, false)), .call 31 [(.t 32)]⟩,
        ⟨(some 34), (some (29, false)), .call 19 [(.t 30), (.t 33)]⟩,
        ⟨(some 35), (some (29, false)), .un .not (.t 34)⟩,
        ⟨(some 36), none, .pick (.t 29) (.c (.b true)) (.t 35)⟩] [[], [], [], [], [], [], [], [0], [], [], [], [], [], [], [11], [], [], []])
      (.ite (.t 36)
       (.seq
        (.reg [
          ⟨(some 2), none, .mv (.c (.b false))⟩])
        .ret)
       .skip))
     (.seq
      (.reg [
        ⟨(some 37), none, .fa 0 (.t 1)⟩,
        ⟨(some 38), none, .ld (some 4) (.t 37)⟩,
        ⟨(some 39), none, .call 20 [(.t 38)]⟩,
        ⟨(some 5), none, .mv (.t 39)⟩])
      (.seq
       (.reg [
         ⟨(some 40), none, .ld (some 4) (.t 3)⟩,
         ⟨(some 41), none, .call 20 [(.t 40)]⟩,
         ⟨(some 42), none, .mv (.t 5)⟩,
         ⟨(some 43), none, .eqb false (.t 41) (.t 42)⟩,
         ⟨(some 44), none, .mv (.t 43)⟩,
         ⟨(some 45), (some (44, true)), .ld (some 4) (.t 4)⟩,
         ⟨(some 46), (some (44, true)), .call 20 [(.t 45)]⟩,
         ⟨(some 47), (some (44, true)), .mv (.t 5)⟩,
         ⟨(some 48), (some (44, true)), .eqb false (.t 46) (.t 47)⟩,
         ⟨(some 49), none, .pick (.t 44) (.t 48) (.c (.b false))⟩,
         ⟨(some 50), none, .mv (.t 49)⟩,
         ⟨(some 51), (some (50, true)), .mv (.t 5)⟩,
         ⟨(some 52), (some (50, true)), .un .not (.t 51)⟩,
         ⟨(some 53), (some (50, true)), .mv (.t 52)⟩,
         ⟨(some 54), (some (53, false)), .fa 2 (.t 4)⟩,
         ⟨(some 55), (some (53, false)), .ld none (.t 54)⟩,
         ⟨(some 56), (some (53, false)), .un .not (.t 55)⟩,
         ⟨(some 57), (some (50, true)), .pick (.t 53) (.c (.b true)) (.t 56)⟩,
         ⟨(some 58), none, .pick (.t 50) (.t 57) (.c (.b false))⟩,
         ⟨(some 59), none, .mv (.t 58)⟩,
         ⟨(some 60), (some (59, true)), .call 21 []⟩,
         ⟨(some 61), none, .pick (.t 59) (.t 60) (.c (.b false))⟩,
         ⟨(some 2), none, .mv (.t 61)⟩])
       .ret))))))
def r6 : List Rr := [.tmp 2]
theorem ok6 : FnOk Try.prog 6 c6 r6 62 := ⟨Try.f6, (Try.f6.body).getD .skip, Try.func6, rfl, by kernel_rfl, by kernel_rfl, rfl⟩

/-- additive/additivelaw51.FlashTorn -/
def c7 : C :=
 (.seq
  (.reg [
    ⟨(some 1), none, .box (.t 0)⟩,
    ⟨(some 2), none, .mv (.c (.b false))⟩])
  (.seq
   (.seq
    (.reg [
      ⟨(some 9), none, .ld (some 8) (.t 1)⟩,
      ⟨(some 10), none, .call 22 [(.t 9)]⟩,
      ⟨(some 11), none, .mv (.t 10)⟩,
      ⟨(some 12), (some (11, false)), .fa 0 (.t 1)⟩,
      ⟨(some 13), (some (11, false)), .ld (some 4) (.t 12)⟩,
      ⟨(some 14), (some (11, false)), .call 20 [(.t 13)]⟩,
      ⟨(some 15), (some (11, false)), .un .not (.t 14)⟩,
      ⟨(some 16), none, .pick (.t 11) (.c (.b true)) (.t 15)⟩,
      ⟨(some 17), none, .mv (.t 16)⟩,
      ⟨(some 18), (some (17, false)), .fa 0 (.t 1)⟩,
      ⟨(some 19), (some (17, false)), .fa 2 (.t 18)⟩,
      ⟨(some 20), (some (17, false)), .ld none (.t 19)⟩,
      ⟨(some 21), none, .pick (.t 17) (.c (.b true)) (.t 20)⟩,
      ⟨(some 22), none, .mv (.t 21)⟩,
      ⟨(some 23), (some (22, false)), .fa 4 (.t 1)⟩,
      ⟨(some 24), (some (22, false)), .ld none (.t 23)⟩,
      ⟨(some 25), (some (22, false)), .bin .lss (.t 24) (.c (.i .i64 0))⟩,
      ⟨(some 26), none, .pick (.t 22) (.c (.b true)) (.t 25)⟩,
      ⟨(some 27), none, .mv (.t 26)⟩,
      ⟨(some 28), (some (27, false)), .fa 4 (.t 1)⟩,
      ⟨(some 29), (some (27, false)), .ld none (.t 28)⟩,
      ⟨(some 30), (some (27, false)), .fa 0 (.t 1)⟩,
      ⟨(some 31), (some (27, false)), .fa 0 (.t 30)⟩,
      ⟨(some 32), (some (27, false)), .ld none (.t 31)⟩,
      ⟨(some 33), (some (27, false)), .len 0 (.t 32)⟩,
      ⟨(some 34), (some (27, false)), .bin .geq (.t 29) (.t 33)⟩,
      ⟨(some 35), none, .pick (.t 27) (.c (.b true)) (.t 34)⟩,
      ⟨(some 36), none, .mv (.t 35)⟩,
      ⟨(some 37), (some (36, false)), .fa 5 (.t 1)⟩,
      ⟨(some 38), (some (36, false)), .ld none (.t 37)⟩,
      ⟨(some 39), (some (36, false)), .len 1 (.t 38)⟩,
      ⟨(some 40), (some (36, false)), .bin .neq (.t 39) (.c (.i .i64 64))⟩,
      ⟨(some 41), none, .pick (.t 36) (.c (.b true)) (.t 40)⟩])
    (.ite (.t 41)
     (.seq
      (.reg [
        ⟨(some 42), none, .call 21 []⟩,
        ⟨(some 2), none, .mv (.t 42)⟩])
      .ret)
     .skip))
   (.seq
    (.reg [
      ⟨(some 44), none, .fa 0 (.t 1)⟩,
      ⟨(some 45), none, .ld (some 4) (.t 44)⟩,
      ⟨(some 46), none, .fa 4 (.t 1)⟩,
      ⟨(some 47), none, .ld none (.t 46)⟩,
      ⟨(some 48), none, .fa 5 (.t 1)⟩,
      ⟨(some 49), none, .ld none (.t 48)⟩,
      ⟨(some 50), none, .call 26 [(.t 45), (.t 47), (.t 49)]⟩,
      ⟨(some 43), none, .mv (.t 50)⟩,
      ⟨(some 51), none, .ext (.t 43) 0⟩,
      ⟨(some 52), none, .ext (.t 43) 1⟩,
      ⟨(some 3), none, .alloc [.nil, (.i .i64 0), (.b false), (.i .i64 0)]⟩,
      ⟨none, none, .st 4 (.t 3) (.t 51)⟩,
      ⟨(some 4), none, .mv (.t 52)⟩])
    (.seq
     (.reg [
       ⟨(some 53), none, .fa 5 (.t 1)⟩,
       ⟨(some 54), none, .ld none (.t 53)⟩,
       ⟨(some 5), none, .mv (.t 54)⟩])
     (.seq
      (.seq
       (.reg [
         ⟨(some 55), none, .fa 0 (.t 1)⟩,
         ⟨(some 56), none, .fa 1 (.t 55)⟩,
         ⟨(some 57), none, .ld none (.t 56)⟩,
         ⟨(some 58), none, .bin .eql (.t 57) (.c (.i .i64 1))⟩])
       (.ite (.t 58)
        (.drw [
          ⟨(some 59), none, .fa 5 (.t 1)⟩,
          ⟨(some 60), none, .ld none (.t 59)⟩,
          ⟨(some 61), none, .fa 0 (.t 1)⟩,
          ⟨(some 62), none, .fa 3 (.t 61)⟩,
          ⟨(some 63), none, .ld none (.t 62)⟩,
          ⟨(some 64), none, .slcs (.t 60) none (some (.t 63))⟩,
          ⟨(some 65), none, .fa 0 (.t 1)⟩,
          ⟨(some 66), none, .fa 0 (.t 65)⟩,
          ⟨(some 67), none, .ld none (.t 66)⟩,
          ⟨(some 68), none, .fa 4 (.t 1)⟩,
          ⟨(some 69), none, .ld none (.t 68)⟩,
          ⟨(some 70), none, .ia 1 (.t 67) (.t 69)⟩,
          ⟨(some 71), none, .ld none (.t 70)⟩,
          ⟨(some 72), none, .fa 0 (.t 1)⟩,
          ⟨(some 73), none, .fa 3 (.t 72)⟩,
          ⟨(some 74), none, .ld none (.t 73)⟩,
          ⟨(some 75), none, .slcs (.t 71) (some (.t 74)) none⟩,
          ⟨(some 76), none, .bin .add (.t 64) (.t 75)⟩,
          ⟨(some 5), none, .mv (.t 76)⟩] [])
        .skip))
      (.seq
       (.seq
        (.reg [
          ⟨(some 77), none, .mv (.t 4)⟩,
          ⟨(some 78), none, .bin .eql (.t 77) (.c (.i .i64 17))⟩,
          ⟨(some 79), none, .fa 0 (.t 1)⟩,
          ⟨(some 80), none, .fa 1 (.t 79)⟩,
          ⟨(some 81), none, .ld none (.t 80)⟩,
          ⟨(some 82), none, .bin .eql (.t 81) (.c (.i .i64 1))⟩,
          ⟨(some 83), none, .eqb true (.t 78) (.t 82)⟩,
          ⟨(some 84), none, .mv (.t 83)⟩,
          ⟨(some 85), (some (84, false)), .mv (.t 4)⟩,
          ⟨(some 86), (some (84, false)), .bin .neq (.t 85) (.c (.i .i64 0))⟩,
          ⟨(some 87), (some (84, false)), .mv (.t 86)⟩,
          ⟨(some 88), (some (87, true)), .mv (.t 4)⟩,
          ⟨(some 89), (some (87, true)), .bin .neq (.t 88) (.c (.i .i64 17))⟩,
          ⟨(some 90), (some (84, false)), .pick (.t 87) (.t 89) (.c (.b false))⟩,
          ⟨(some 91), none, .pick (.t 84) (.c (.b true)) (.t 90)⟩,
          ⟨(some 92), none, .mv (.t 91)⟩,
          ⟨(some 93), (some (92, false)), .ld (some 4) (.t 3)⟩,
          ⟨(some 94), (some (92, false)), .call 20 [(.t 93)]⟩,
          ⟨(some 95), (some (92, false)), .un .not (.t 94)⟩,
          ⟨(some 96), none, .pick (.t 92) (.c (.b true)) (.t 95)⟩,
          ⟨(some 97), none, .mv (.t 96)⟩,
          ⟨(some 98), (some (97, false)), .fa 2 (.t 3)⟩,
          ⟨(some 99), (some (97, false)), .ld none (.t 98)⟩,
          ⟨(some 100), (some (97, false)), .mv (.t 4)⟩,
          ⟨(some 101), (some (97, false)), .bin .eql (.t 100) (.c (.i .i64 17))⟩,
          ⟨(some 102), (some (97, false)), .eqb true (.t 99) (.t 101)⟩,
          ⟨(some 103), none, .pick (.t 97) (.c (.b true)) (.t 102)⟩,
          ⟨(some 104), none, .mv (.t 103)⟩,
          ⟨(some 105), (some (104, false)), .fa 0 (.t 3)⟩,
          ⟨(some 106), (some (104, false)), .ld none (.t 105)⟩,
          ⟨(some 107), (some (104, false)), .len 0 (.t 106)⟩,
          ⟨(some 108), (some (104, false)), .fa 0 (.t 1)⟩,
          ⟨(some 109), (some (104, false)), .fa 0 (.t 108)⟩,
          ⟨(some 110), (some (104, false)), .ld none (.t 109)⟩,
          ⟨(some 111), (some (104, false)), .len 0 (.t 110)⟩,
          ⟨(some 112), (some (104, false)), .bin .neq (.t 107) (.t 111)⟩,
          ⟨(some 113), none, .pick (.t 104) (.c (.b true)) (.t 112)⟩])
        (.ite (.t 113)
         (.seq
          (.reg [
            ⟨(some 2), none, .mv (.c (.b false))⟩])
          .ret)
         .skip))
       (.seq
        (.reg [
          ⟨(some 114), none, .ld (some 4) (.t 3)⟩,
          ⟨(some 115), none, .call 29 [(.t 114)]⟩,
          ⟨none, none, .st 4 (.t 3) (.t 115)⟩])
        (.seq
         (.seq
          (.reg [
            ⟨(some 116), none, .fa 0 (.t 1)⟩,
            ⟨(some 117), none, .fa 0 (.t 116)⟩,
            ⟨(some 118), none, .ld none (.t 117)⟩,
            ⟨(some 119), none, .len 0 (.t 118)⟩,
            ⟨(some 120), none, .mv (.c (.i .i64 0))⟩])
          (.blk 0
           (.loop
            (.seq
             (.reg [
               ⟨(some 121), none, .bin .lss (.t 120) (.t 119)⟩])
             (.seq
              (.ite (.t 121)
               .skip
               (.exit 0))
              (.seq
               (.blk 1
                (.seq
                 (.reg [
                   ⟨(some 122), none, .mv (.t 120)⟩,
                   ⟨(some 6), none, .mv (.t 122)⟩])
                 (.seq
                  (.reg [
                    ⟨(some 124), none, .ld (some 4) (.t 3)⟩,
                    ⟨(some 125), none, .mv (.t 6)⟩,
                    ⟨(some 126), none, .call 23 [(.t 124), (.t 125)]⟩,
                    ⟨(some 123), none, .mv (.t 126)⟩,
                    ⟨(some 127), none, .ext (.t 123) 0⟩,
                    ⟨(some 128), none, .ext (.t 123) 1⟩,
                    ⟨(some 7), none, .mv (.t 127)⟩,
                    ⟨(some 8), none, .mv (.t 128)⟩])
                  (.seq
                   (.reg [
                     ⟨(some 129), none, .mv (.t 8)⟩,
                     ⟨(some 130), none, .bin .neq (.t 129) (.c (.i .i64 0))⟩,
                     ⟨(some 131), none, .mv (.t 130)⟩,
                     ⟨(some 132), (some (131, false)), .mv (.t 6)⟩,
                     ⟨(some 133), (some (131, false)), .fa 4 (.t 1)⟩,
                     ⟨(some 134), (some (131, false)), .ld none (.t 133)⟩,
                     ⟨(some 135), (some (131, false)), .bin .eql (.t 132) (.t 134)⟩,
                     ⟨(some 136), (some (131, false)), .mv (.t 135)⟩,
                     ⟨(some 137), (some (136, true)), .mv (.t 7)⟩,
                     ⟨(some 138), (some (136, true)), .mv (.t 5)⟩,
                     ⟨(some 139), (some (136, true)), .bin .neq (.t 137) (.t 138)⟩,
                     ⟨(some 140), (some (131, false)), .pick (.t 136) (.t 139) (.c (.b false))⟩,
                     ⟨(some 141), none, .pick (.t 131) (.c (.b true)) (.t 140)⟩,
                     ⟨(some 142), none, .mv (.t 141)⟩,
                     ⟨(some 143), (some (142, false)), .mv (.t 6)⟩,
                     ⟨(some 144), (some (142, false)), .fa 4 (.t 1)⟩,
                     ⟨(some 145), (some (142, false)), .ld none (.t 144)⟩,
                     ⟨(some 146), (some (142, false)), .bin .neq (.t 143) (.t 145)⟩,
                     ⟨(some 147), (some (142, false)), .mv (.t 146)⟩,
                     ⟨(some 148), (some (147, true)), .mv (.t 7)⟩,
                     ⟨(some 149), (some (147, true)), .fa 0 (.t 1)⟩,
                     ⟨(some 150), (some (147, true)), .fa 0 (.t 149)⟩,
                     ⟨(some 151), (some (147, true)), .ld none (.t 150)⟩,
                     ⟨(some 152), (some (147, true)), .mv (.t 6)⟩,
                     ⟨(some 153), (some (147, true)), .ia 1 (.t 151) (.t 152)⟩,
                     ⟨(some 154), (some (147, true)), .ld none (.t 153)⟩,
                     ⟨(some 155), (some (147, true)), .bin .neq (.t 148) (.t 154)⟩,
                     ⟨(some 156), (some (142, false)), .pick (.t 147) (.t 155) (.c (.b false))⟩,
                     ⟨(some 157), none, .pick (.t 142) (.c (.b true)) (.t 156)⟩])
                   (.ite (.t 157)
                    (.seq
                     (.reg [
                       ⟨(some 2), none, .mv (.c (.b false))⟩])
                     .ret)
                    .skip)))))
               (.reg [
                 ⟨(some 158), none, .bin .add (.t 120) (.c (.i .i64 1))⟩,
                 ⟨(some 120), none, .mv (.t 158)⟩])))))))
         (.seq
          (.reg [
            ⟨(some 159), none, .call 21 []⟩,
            ⟨(some 2), none, .mv (.t 159)⟩])
          .ret)))))))))
def r7 : List Rr := [.tmp 2]
theorem ok7 : FnOk Try.prog 7 c7 r7 160 := ⟨Try.f7, (Try.f7.body).getD .skip, Try.func7, rfl, by kernel_rfl, by kernel_rfl, rfl⟩

/-- additive/additivelaw51.FlashCounts -/
def c8 : C :=
 (.seq
  (.reg [
    ⟨(some 1), none, .box (.t 0)⟩,
    ⟨(some 2), none, .mv (.c (.b false))⟩])
  (.seq
   (.seq
    (.reg [
      ⟨(some 7), none, .ld (some 8) (.t 1)⟩,
      ⟨(some 8), none, .call 22 [(.t 7)]⟩,
      ⟨(some 9), none, .mv (.t 8)⟩,
      ⟨(some 10), (some (9, false)), .fa 0 (.t 1)⟩,
      ⟨(some 11), (some (9, false)), .ld (some 4) (.t 10)⟩,
      ⟨(some 12), (some (9, false)), .call 20 [(.t 11)]⟩,
      ⟨(some 13), (some (9, false)), .un .not (.t 12)⟩,
      ⟨(some 14), none, .pick (.t 9) (.c (.b true)) (.t 13)⟩,
      ⟨(some 15), none, .mv (.t 14)⟩,
      ⟨(some 16), (some (15, false)), .fa 0 (.t 1)⟩,
      ⟨(some 17), (some (15, false)), .fa 2 (.t 16)⟩,
      ⟨(some 18), (some (15, false)), .ld none (.t 17)⟩,
      ⟨(some 19), none, .pick (.t 15) (.c (.b true)) (.t 18)⟩,
      ⟨(some 20), none, .mv (.t 19)⟩,
      ⟨(some 21), (some (20, false)), .fa 6 (.t 1)⟩,
      ⟨(some 22), (some (20, false)), .ld none (.t 21)⟩,
      ⟨(some 23), (some (20, false)), .bin .lss (.t 22) (.c (.i .i64 1))⟩,
      ⟨(some 24), none, .pick (.t 20) (.c (.b true)) (.t 23)⟩,
      ⟨(some 25), none, .mv (.t 24)⟩,
      ⟨(some 26), (some (25, false)), .fa 6 (.t 1)⟩,
      ⟨(some 27), (some (25, false)), .ld none (.t 26)⟩,
      ⟨(some 28), (some (25, false)), .bin .gtr (.t 27) (.c (.i .i64 30))⟩,
      ⟨(some 29), none, .pick (.t 25) (.c (.b true)) (.t 28)⟩])
    (.ite (.t 29)
     (.seq
      (.reg [
        ⟨(some 30), none, .call 21 []⟩,
        ⟨(some 2), none, .mv (.t 30)⟩])
      .ret)
     .skip))
   (.seq
    (.reg [
      ⟨(some 31), none, .fa 0 (.t 1)⟩,
      ⟨(some 32), none, .ld (some 4) (.t 31)⟩,
      ⟨(some 33), none, .fa 6 (.t 1)⟩,
      ⟨(some 34), none, .ld none (.t 33)⟩,
      ⟨(some 35), none, .fa 7 (.t 1)⟩,
      ⟨(some 36), none, .ld none (.t 35)⟩,
      ⟨(some 37), none, .call 28 [(.t 32), (.t 34), (.t 36)]⟩,
      ⟨(some 3), none, .alloc [.nil, (.i .i64 0), (.b false), (.i .i64 0)]⟩,
      ⟨none, none, .st 4 (.t 3) (.t 37)⟩])
    (.seq
     (.seq
      (.reg [
        ⟨(some 4), none, .mv (.c (.i .i64 1))⟩])
      (.blk 0
       (.loop
        (.seq
         (.seq
          (.reg [
            ⟨(some 38), none, .mv (.t 4)⟩,
            ⟨(some 39), none, .fa 6 (.t 1)⟩,
            ⟨(some 40), none, .ld none (.t 39)⟩,
            ⟨(some 41), none, .bin .add (.t 40) (.c (.i .i64 2))⟩,
            ⟨(some 42), none, .bin .leq (.t 38) (.t 41)⟩])
          (.ite (.t 42)
           .skip
           (.exit 0)))
         (.seq
          (.blk 1
           (.seq
            (.drw [
              ⟨(some 46), none, .ld (some 4) (.t 3)⟩,
              ⟨(some 47), none, .mv (.t 4)⟩,
              ⟨(some 48), none, .bin .rem (.t 47) (.c (.i .i64 2))⟩,
              ⟨(some 49), none, .mv (.t 4)⟩,
              ⟨(some 50), none, .cvi .u8 (.t 49)⟩,
              ⟨(some 51), none, .call 32 [(.t 50)]⟩,
              ⟨(some 52), none, .call 26 [(.t 46), (.t 48), (.t 51)]⟩,
              ⟨(some 45), none, .mv (.t 52)⟩,
              ⟨(some 53), none, .ext (.t 45) 0⟩,
              ⟨(some 54), none, .ext (.t 45) 1⟩,
              ⟨(some 5), none, .alloc [.nil, (.i .i64 0), (.b false), (.i .i64 0)]⟩,
              ⟨none, none, .st 4 (.t 5) (.t 53)⟩,
              ⟨(some 6), none, .mv (.t 54)⟩] [[], [], [], [], [], [0], [], [], [], [], [], [], []])
            (.seq
             (.seq
              (.reg [
                ⟨(some 55), none, .mv (.t 4)⟩,
                ⟨(some 56), none, .fa 6 (.t 1)⟩,
                ⟨(some 57), none, .ld none (.t 56)⟩,
                ⟨(some 58), none, .bin .lss (.t 55) (.t 57)⟩,
                ⟨(some 59), none, .mv (.t 58)⟩,
                ⟨(some 60), (some (59, true)), .mv (.t 6)⟩,
                ⟨(some 61), (some (59, true)), .bin .neq (.t 60) (.c (.i .i64 0))⟩,
                ⟨(some 62), none, .pick (.t 59) (.t 61) (.c (.b false))⟩,
                ⟨(some 63), none, .mv (.t 62)⟩,
                ⟨(some 64), (some (63, false)), .mv (.t 4)⟩,
                ⟨(some 65), (some (63, false)), .fa 6 (.t 1)⟩,
                ⟨(some 66), (some (63, false)), .ld none (.t 65)⟩,
                ⟨(some 67), (some (63, false)), .bin .geq (.t 64) (.t 66)⟩,
                ⟨(some 68), (some (63, false)), .mv (.t 67)⟩,
                ⟨(some 69), (some (68, true)), .mv (.t 6)⟩,
                ⟨(some 70), (some (68, true)), .bin .neq (.t 69) (.c (.i .i64 17))⟩,
                ⟨(some 71), (some (63, false)), .pick (.t 68) (.t 70) (.c (.b false))⟩,
                ⟨(some 72), none, .pick (.t 63) (.c (.b true)) (.t 71)⟩])
              (.ite (.t 72)
               (.seq
                (.reg [
                  ⟨(some 2), none, .mv (.c (.b false))⟩])
                .ret)
               .skip))
             (.reg [
               ⟨(some 73), none, .ld (some 4) (.t 5)⟩,
               ⟨none, none, .st 4 (.t 3) (.t 73)⟩]))))
          (.reg [
            ⟨(some 43), none, .mv (.t 4)⟩,
            ⟨(some 44), none, .bin .add (.t 43) (.c (.i .i64 1))⟩,
            ⟨(some 4), none, .mv (.t 44)⟩]))))))
     (.seq
      (.reg [
        ⟨(some 74), none, .call 21 []⟩,
        ⟨(some 2), none, .mv (.t 74)⟩])
      .ret)))))
def r8 : List Rr := [.tmp 2]
theorem ok8 : FnOk Try.prog 8 c8 r8 75 := ⟨Try.f8, (Try.f8.body).getD .skip, Try.func8, rfl, by kernel_rfl, by kernel_rfl, rfl⟩

/-- additive/flash.New -/
def c17 : C :=
 (.seq
  (.reg [
    ⟨(some 2), none, .alloc [.nil, (.i .i64 0), (.b false), (.i .i64 0)]⟩,
    ⟨(some 3), none, .mv (.c (.i .i64 0))⟩])
  (.seq
   (.seq
    (.reg [
      ⟨(some 5), none, .mv (.t 0)⟩,
      ⟨(some 6), none, .bin .lss (.t 5) (.c (.i .i64 2))⟩,
      ⟨(some 7), none, .mv (.t 6)⟩,
      ⟨(some 8), (some (7, false)), .mv (.t 0)⟩,
      ⟨(some 9), (some (7, false)), .bin .gtr (.t 8) (.c (.i .i64 256))⟩,
      ⟨(some 10), none, .pick (.t 7) (.c (.b true)) (.t 9)⟩])
    (.ite (.t 10)
     (.seq
      (.reg [
        ⟨(some 11), none, .build [.nil, (.i .i64 0), (.b false), (.i .i64 0)] []⟩,
        ⟨none, none, .st 4 (.t 2) (.t 11)⟩,
        ⟨(some 3), none, .mv (.c (.i .i64 1))⟩])
      .ret)
     .skip))
   (.seq
    (.reg [
      ⟨(some 4), none, .alloc [.nil, (.i .i64 0), (.b false), (.i .i64 0)]⟩])
    (.seq
     (.blk 0
      (.loop
       (.seq
        (.seq
         (.reg [
           ⟨(some 12), none, .fa 0 (.t 4)⟩,
           ⟨(some 13), none, .ld none (.t 12)⟩,
           ⟨(some 14), none, .len 0 (.t 13)⟩,
           ⟨(some 15), none, .mv (.t 0)⟩,
           ⟨(some 16), none, .bin .lss (.t 14) (.t 15)⟩])
         (.ite (.t 16)
          .skip
          (.exit 0)))
        (.blk 1
         (.drw [
           ⟨(some 17), none, .fa 0 (.t 4)⟩,
           ⟨(some 18), none, .ld none (.t 17)⟩,
           ⟨(some 19), none, .mki 1 1 [(.i .u8 0)] (.c (.i .i64 64))⟩,
           ⟨(some 20), none, .b2s (.t 19)⟩,
           ⟨(some 21), none, .bsi 1 1 [(.s [])] [(0, (.t 20))]⟩,
           ⟨(some 22), none, .app 1 16 (.t 18) (.t 21)⟩,
           ⟨(some 23), none, .fa 0 (.t 4)⟩,
           ⟨none, none, .st 1 (.t 23) (.t 22)⟩] [])))))
     (.seq
      (.reg [
        ⟨(some 24), none, .ld (some 4) (.t 4)⟩,
        ⟨none, none, .st 4 (.t 2) (.t 24)⟩,
        ⟨(some 3), none, .mv (.c (.i .i64 0))⟩])
      .ret)))))
def r17 : List Rr := [.cell 2 (some 4), .tmp 3]
theorem ok17 : FnOk Try.prog 17 c17 r17 25 := ⟨Try.f17, (Try.f17.body).getD .skip, Try.func17, rfl, by kernel_rfl, by kernel_rfl, rfl⟩

/-- additive/additiveref51.New -/
def c18 : C :=
 (.seq
  (.reg [
    ⟨(some 2), none, .alloc [.nil, (.i .i64 0), (.b false), (.i .i64 0)]⟩,
    ⟨(some 3), none, .mv (.c (.i .i64 0))⟩])
  (.seq
   (.seq
    (.reg [
      ⟨(some 6), none, .mv (.t 0)⟩,
      ⟨(some 7), none, .bin .lss (.t 6) (.c (.i .i64 2))⟩,
      ⟨(some 8), none, .mv (.t 7)⟩,
      ⟨(some 9), (some (8, false)), .mv (.t 0)⟩,
      ⟨(some 10), (some (8, false)), .bin .gtr (.t 9) (.c (.i .i64 256))⟩,
      ⟨(some 11), none, .pick (.t 8) (.c (.b true)) (.t 10)⟩])
    (.ite (.t 11)
     (.seq
      (.reg [
        ⟨(some 12), none, .build [.nil, (.i .i64 0), (.b false), (.i .i64 0)] []⟩,
        ⟨none, none, .st 4 (.t 2) (.t 12)⟩,
        ⟨(some 3), none, .mv (.c (.i .i64 1))⟩])
      .ret)
     .skip))
   (.seq
    (.reg [
      ⟨(some 4), none, .alloc [.nil, (.i .i64 0), (.b false), (.i .i64 0)]⟩])
    (.seq
     (.seq
      (.reg [
        ⟨(some 5), none, .mv (.c (.i .i64 0))⟩])
      (.blk 0
       (.loop
        (.seq
         (.seq
          (.reg [
            ⟨(some 13), none, .mv (.t 5)⟩,
            ⟨(some 14), none, .mv (.t 0)⟩,
            ⟨(some 15), none, .bin .lss (.t 13) (.t 14)⟩])
          (.ite (.t 15)
           .skip
           (.exit 0)))
         (.seq
          (.blk 1
           (.drw [
             ⟨(some 18), none, .fa 0 (.t 4)⟩,
             ⟨(some 19), none, .ld none (.t 18)⟩,
             ⟨(some 20), none, .call 48 []⟩,
             ⟨(some 21), none, .bsi 1 1 [(.s [])] [(0, (.t 20))]⟩,
             ⟨(some 22), none, .app 1 16 (.t 19) (.t 21)⟩,
             ⟨(some 23), none, .fa 0 (.t 4)⟩,
             ⟨none, none, .st 1 (.t 23) (.t 22)⟩] [[], [], [0, 1], [], [], [], []]))
          (.reg [
            ⟨(some 16), none, .mv (.t 5)⟩,
            ⟨(some 17), none, .bin .add (.t 16) (.c (.i .i64 1))⟩,
            ⟨(some 5), none, .mv (.t 17)⟩]))))))
     (.seq
      (.reg [
        ⟨(some 24), none, .ld (some 4) (.t 4)⟩,
        ⟨none, none, .st 4 (.t 2) (.t 24)⟩,
        ⟨(some 3), none, .mv (.c (.i .i64 0))⟩])
      .ret)))))
def r18 : List Rr := [.cell 2 (some 4), .tmp 3]
theorem ok18 : FnOk Try.prog 18 c18 r18 25 := ⟨Try.f18, (Try.f18.body).getD .skip, Try.func18, rfl, by kernel_rfl, by kernel_rfl, rfl⟩

/-- additive/additiveref51.Same -/
def c19 : C :=
 (.seq
  (.reg [
    ⟨(some 2), none, .box (.t 0)⟩,
    ⟨(some 3), none, .box (.t 1)⟩,
    ⟨(some 4), none, .mv (.c (.b false))⟩])
  (.seq
   (.seq
    (.reg [
      ⟨(some 6), none, .fa 0 (.t 2)⟩,
      ⟨(some 7), none, .ld none (.t 6)⟩,
      ⟨(some 8), none, .len 0 (.t 7)⟩,
      ⟨(some 9), none, .fa 0 (.t 3)⟩,
      ⟨(some 10), none, .ld none (.t 9)⟩,
      ⟨(some 11), none, .len 0 (.t 10)⟩,
      ⟨(some 12), none, .bin .neq (.t 8) (.t 11)⟩,
      ⟨(some 13), none, .mv (.t 12)⟩,
      ⟨(some 14), (some (13, false)), .fa 1 (.t 2)⟩,
      ⟨(some 15), (some (13, false)), .ld none (.t 14)⟩,
      ⟨(some 16), (some (13, false)), .fa 1 (.t 3)⟩,
      ⟨(some 17), (some (13, false)), .ld none (.t 16)⟩,
      ⟨(some 18), (some (13, false)), .bin .neq (.t 15) (.t 17)⟩,
      ⟨(some 19), none, .pick (.t 13) (.c (.b true)) (.t 18)⟩,
      ⟨(some 20), none, .mv (.t 19)⟩,
      ⟨(some 21), (some (20, false)), .fa 2 (.t 2)⟩,
      ⟨(some 22), (some (20, false)), .ld none (.t 21)⟩,
      ⟨(some 23), (some (20, false)), .fa 2 (.t 3)⟩,
      ⟨(some 24), (some (20, false)), .ld none (.t 23)⟩,
      ⟨(some 25), (some (20, false)), .eqb true (.t 22) (.t 24)⟩,
      ⟨(some 26), none, .pick (.t 20) (.c (.b true)) (.t 25)⟩,
      ⟨(some 27), none, .mv (.t 26)⟩,
      ⟨(some 28), (some (27, false)), .fa 3 (.t 2)⟩,
      ⟨(some 29), (some (27, false)), .ld none (.t 28)⟩,
      ⟨(some 30), (some (27, false)), .fa 3 (.t 3)⟩,
      ⟨(some 31), (some (27, false)), .ld none (.t 30)⟩,
      ⟨(some 32), (some (27, false)), .bin .neq (.t 29) (.t 31)⟩,
      ⟨(some 33), none, .pick (.t 27) (.c (.b true)) (.t 32)⟩])
    (.ite (.t 33)
     (.seq
      (.reg [
        ⟨(some 4), none, .mv (.c (.b false))⟩])
      .ret)
     .skip))
   (.seq
    (.seq
     (.reg [
       ⟨(some 34), none, .fa 0 (.t 2)⟩,
       ⟨(some 35), none, .ld none (.t 34)⟩,
       ⟨(some 36), none, .len 0 (.t 35)⟩,
       ⟨(some 37), none, .mv (.c (.i .i64 0))⟩])
     (.blk 0
      (.loop
       (.seq
        (.reg [
          ⟨(some 38), none, .bin .lss (.t 37) (.t 36)⟩])
        (.seq
         (.ite (.t 38)
          .skip
          (.exit 0))
         (.seq
          (.blk 1
           (.seq
            (.reg [
              ⟨(some 39), none, .mv (.t 37)⟩,
              ⟨(some 5), none, .mv (.t 39)⟩])
            (.seq
             (.drw [
               ⟨(some 40), none, .fa 0 (.t 2)⟩,
               ⟨(some 41), none, .ld none (.t 40)⟩,
               ⟨(some 42), none, .mv (.t 5)⟩,
               ⟨(some 43), none, .ia 1 (.t 41) (.t 42)⟩,
               ⟨(some 44), none, .ld none (.t 43)⟩,
               ⟨(some 45), none, .fa 0 (.t 3)⟩,
               ⟨(some 46), none, .ld none (.t 45)⟩,
               ⟨(some 47), none, .mv (.t 5)⟩,
               ⟨(some 48), none, .ia 1 (.t 46) (.t 47)⟩,
               ⟨(some 49), none, .ld none (.t 48)⟩,
               ⟨(some 50), none, .bin .neq (.t 44) (.t 49)⟩] [])
             (.ite (.t 50)
              (.seq
               (.reg [
                 ⟨(some 4), none, .mv (.c (.b false))⟩])
               .ret)
              .skip))))
          (.reg [
            ⟨(some 51), none, .bin .add (.t 37) (.c (.i .i64 1))⟩,
            ⟨(some 37), none, .mv (.t 51)⟩])))))))
    (.seq
     (.reg [
       ⟨(some 4), none, .mv (.c (.b true))⟩])
     .ret))))
def r19 : List Rr := [.tmp 4]
theorem ok19 : FnOk Try.prog 19 c19 r19 52 := ⟨Try.f19, (Try.f19.body).getD .skip, Try.func19, rfl, by kernel_rfl, by kernel_rfl, rfl⟩

/-- additive/flash.Valid -/
def c20 : C :=
 (.seq
  (.reg [
    ⟨(some 1), none, .box (.t 0)⟩,
    ⟨(some 2), none, .mv (.c (.b false))⟩])
  (.seq
   (.seq
    (.reg [
      ⟨(some 5), none, .fa 0 (.t 1)⟩,
      ⟨(some 6), none, .ld none (.t 5)⟩,
      ⟨(some 7), none, .len 0 (.t 6)⟩,
      ⟨(some 8), none, .mv (.c (.i .i64 0))⟩])
    (.blk 0
     (.loop
      (.seq
       (.reg [
         ⟨(some 9), none, .bin .lss (.t 8) (.t 7)⟩])
       (.seq
        (.ite (.t 9)
         .skip
         (.exit 0))
        (.seq
         (.blk 1
          (.seq
           (.reg [
             ⟨(some 10), none, .ia 1 (.t 6) (.t 8)⟩,
             ⟨(some 11), none, .ld none (.t 10)⟩,
             ⟨(some 4), none, .mv (.t 11)⟩])
           (.seq
            (.reg [
              ⟨(some 12), none, .mv (.t 4)⟩,
              ⟨(some 13), none, .len 1 (.t 12)⟩,
              ⟨(some 14), none, .bin .neq (.t 13) (.c (.i .i64 64))⟩])
            (.ite (.t 14)
             (.seq
              (.reg [
                ⟨(some 2), none, .mv (.c (.b false))⟩])
              .ret)
             .skip))))
         (.reg [
           ⟨(some 15), none, .bin .add (.t 8) (.c (.i .i64 1))⟩,
           ⟨(some 8), none, .mv (.t 15)⟩])))))))
   (.seq
    (.reg [
      ⟨(some 16), none, .fa 0 (.t 1)⟩,
      ⟨(some 17), none, .ld none (.t 16)⟩,
      ⟨(some 18), none, .len 0 (.t 17)⟩,
      ⟨(some 19), none, .bin .geq (.t 18) (.c (.i .i64 2))⟩,
      ⟨(some 20), none, .mv (.t 19)⟩,
      ⟨(some 21), (some (20, true)), .fa 0 (.t 1)⟩,
      ⟨(some 22), (some (20, true)), .ld none (.t 21)⟩,
      ⟨(some 23), (some (20, true)), .len 0 (.t 22)⟩,
      ⟨(some 24), (some (20, true)), .bin .leq (.t 23) (.c (.i .i64 256))⟩,
      ⟨(some 25), none, .pick (.t 20) (.t 24) (.c (.b false))⟩,
      ⟨(some 26), none, .mv (.t 25)⟩,
      ⟨(some 27), (some (26, true)), .fa 1 (.t 1)⟩,
      ⟨(some 28), (some (26, true)), .ld none (.t 27)⟩,
      ⟨(some 29), (some (26, true)), .bin .geq (.t 28) (.c (.i .i64 0))⟩,
      ⟨(some 30), none, .pick (.t 26) (.t 29) (.c (.b false))⟩,
      ⟨(some 31), none, .mv (.t 30)⟩,
      ⟨(some 32), (some (31, true)), .fa 1 (.t 1)⟩,
      ⟨(some 33), (some (31, true)), .ld none (.t 32)⟩,
      ⟨(some 34), (some (31, true)), .bin .leq (.t 33) (.c (.i .i64 1048576))⟩,
      ⟨(some 35), none, .pick (.t 31) (.t 34) (.c (.b false))⟩,
      ⟨(some 36), none, .mv (.t 35)⟩,
      ⟨(some 37), (some (36, true)), .fa 3 (.t 1)⟩,
      ⟨(some 38), (some (36, true)), .ld none (.t 37)⟩,
      ⟨(some 39), (some (36, true)), .bin .geq (.t 38) (.c (.i .i64 0))⟩,
      ⟨(some 40), none, .pick (.t 36) (.t 39) (.c (.b false))⟩,
      ⟨(some 41), none, .mv (.t 40)⟩,
      ⟨(some 42), (some (41, true)), .fa 3 (.t 1)⟩,
      ⟨(some 43), (some (41, true)), .ld none (.t 42)⟩,
      ⟨(some 44), (some (41, true)), .bin .leq (.t 43) (.c (.i .i64 64))⟩,
      ⟨(some 45), none, .pick (.t 41) (.t 44) (.c (.b false))⟩,
      ⟨(some 2), none, .mv (.t 45)⟩])
    .ret)))
def r20 : List Rr := [.tmp 2]
theorem ok20 : FnOk Try.prog 20 c20 r20 46 := ⟨Try.f20, (Try.f20.body).getD .skip, Try.func20, rfl, by kernel_rfl, by kernel_rfl, rfl⟩

/-- additive/additivelaw51.awake -/
def c21 : C :=
 (.seq
  (.reg [
    ⟨(some 0), none, .mv (.c (.b false))⟩])
  (.seq
   (.reg [
     ⟨(some 12), none, .call 17 [(.c (.i .i64 2))]⟩,
     ⟨(some 11), none, .mv (.t 12)⟩,
     ⟨(some 13), none, .ext (.t 11) 0⟩,
     ⟨(some 14), none, .ext (.t 11) 1⟩,
     ⟨(some 1), none, .alloc [.nil, (.i .i64 0), (.b false), (.i .i64 0)]⟩,
     ⟨none, none, .st 4 (.t 1) (.t 13)⟩,
     ⟨(some 2), none, .mv (.t 14)⟩])
   (.seq
    (.drw [
      ⟨(some 16), none, .ld (some 4) (.t 1)⟩,
      ⟨(some 17), none, .call 32 [(.c (.i .u8 97))]⟩,
      ⟨(some 18), none, .call 26 [(.t 16), (.c (.i .i64 1)), (.t 17)]⟩,
      ⟨(some 15), none, .mv (.t 18)⟩,
      ⟨(some 19), none, .ext (.t 15) 0⟩,
      ⟨(some 20), none, .ext (.t 15) 1⟩,
      ⟨none, none, .st 4 (.t 1) (.t 19)⟩,
      ⟨(some 3), none, .mv (.t 20)⟩] [[], [0], [], [], [], [], [], []])
    (.seq
     (.reg [
       ⟨(some 21), none, .ld (some 4) (.t 1)⟩,
       ⟨(some 22), none, .call 28 [(.t 21), (.c (.i .i64 1)), (.c (.i .i64 3))]⟩,
       ⟨none, none, .st 4 (.t 1) (.t 22)⟩])
     (.seq
      (.drw [
        ⟨(some 24), none, .ld (some 4) (.t 1)⟩,
        ⟨(some 25), none, .call 32 [(.c (.i .u8 98))]⟩,
        ⟨(some 26), none, .call 26 [(.t 24), (.c (.i .i64 1)), (.t 25)]⟩,
        ⟨(some 23), none, .mv (.t 26)⟩,
        ⟨(some 27), none, .ext (.t 23) 0⟩,
        ⟨(some 28), none, .ext (.t 23) 1⟩,
        ⟨none, none, .st 4 (.t 1) (.t 27)⟩,
        ⟨(some 4), none, .mv (.t 28)⟩] [[], [0], [], [], [], [], [], []])
      (.seq
       (.reg [
         ⟨(some 30), none, .ld (some 4) (.t 1)⟩,
         ⟨(some 31), none, .call 23 [(.t 30), (.c (.i .i64 1))]⟩,
         ⟨(some 29), none, .mv (.t 31)⟩,
         ⟨(some 32), none, .ext (.t 29) 0⟩,
         ⟨(some 33), none, .ext (.t 29) 1⟩,
         ⟨(some 5), none, .mv (.t 32)⟩,
         ⟨(some 6), none, .mv (.t 33)⟩])
       (.seq
        (.reg [
          ⟨(some 34), none, .ld (some 4) (.t 1)⟩,
          ⟨(some 35), none, .call 29 [(.t 34)]⟩,
          ⟨none, none, .st 4 (.t 1) (.t 35)⟩])
        (.seq
         (.reg [
           ⟨(some 37), none, .ld (some 4) (.t 1)⟩,
           ⟨(some 38), none, .call 23 [(.t 37), (.c (.i .i64 1))]⟩,
           ⟨(some 36), none, .mv (.t 38)⟩,
           ⟨(some 39), none, .ext (.t 36) 0⟩,
           ⟨(some 40), none, .ext (.t 36) 1⟩,
           ⟨(some 7), none, .mv (.t 39)⟩,
           ⟨(some 8), none, .mv (.t 40)⟩])
         (.seq
          (.reg [
            ⟨(some 42), none, .call 17 [(.c (.i .i64 1))]⟩,
            ⟨(some 41), none, .mv (.t 42)⟩,
            ⟨(some 43), none, .ext (.t 41) 0⟩,
            ⟨(some 44), none, .ext (.t 41) 1⟩,
            ⟨(some 9), none, .alloc [.nil, (.i .i64 0), (.b false), (.i .i64 0)]⟩,
            ⟨none, none, .st 4 (.t 9) (.t 43)⟩,
            ⟨(some 10), none, .mv (.t 44)⟩])
          (.seq
           (.reg [
             ⟨(some 45), none, .mv (.t 2)⟩,
             ⟨(some 46), none, .bin .eql (.t 45) (.c (.i .i64 0))⟩,
             ⟨(some 47), none, .mv (.t 46)⟩,
             ⟨(some 48), (some (47, true)), .mv (.t 3)⟩,
             ⟨(some 49), (some (47, true)), .bin .eql (.t 48) (.c (.i .i64 0))⟩,
             ⟨(some 50), none, .pick (.t 47) (.t 49) (.c (.b false))⟩,
             ⟨(some 51), none, .mv (.t 50)⟩,
             ⟨(some 52), (some (51, true)), .mv (.t 4)⟩,
             ⟨(some 53), (some (51, true)), .bin .eql (.t 52) (.c (.i .i64 17))⟩,
             ⟨(some 54), none, .pick (.t 51) (.t 53) (.c (.b false))⟩,
             ⟨(some 55), none, .mv (.t 54)⟩,
             ⟨(some 56), (some (55, true)), .mv (.t 6)⟩,
             ⟨(some 57), (some (55, true)), .bin .eql (.t 56) (.c (.i .i64 17))⟩,
             ⟨(some 58), none, .pick (.t 55) (.t 57) (.c (.b false))⟩,
             ⟨(some 59), none, .mv (.t 58)⟩,
             ⟨(some 60), (some (59, true)), .mv (.t 8)⟩,
             ⟨(some 61), (some (59, true)), .bin .eql (.t 60) (.c (.i .i64 0))⟩,
             ⟨(some 62), none, .pick (.t 59) (.t 61) (.c (.b false))⟩,
             ⟨(some 63), none, .mv (.t 62)⟩,
             ⟨(some 64), (some (63, true)), .mv (.t 10)⟩,
             ⟨(some 65), (some (63, true)), .bin .eql (.t 64) (.c (.i .i64 1))⟩,
             ⟨(some 66), none, .pick (.t 63) (.t 65) (.c (.b false))⟩,
             ⟨(some 67), none, .mv (.t 66)⟩,
             ⟨(some 68), (some (67, true)), .mv (.t 7)⟩,
             ⟨(some 69), (some (67, true)), .call 32 [(.c (.i .u8 97))]⟩,
             ⟨(some 70), (some (67, true)), .slcs (.t 69) (some (.c (.i .i64 3))) none⟩,
             ⟨(some 71), (some (67, true)), .bin .add (.c (.s [98, 98, 98])) (.t 70)⟩,
             ⟨(some 72), (some (67, true)), .bin .eql (.t 68) (.t 71)⟩,
             ⟨(some 73), none, .pick (.t 67) (.t 72) (.c (.b false))⟩,
             ⟨(some 74), none, .mv (.t 73)⟩,
             ⟨(some 75), (some (74, true)), .fa 0 (.t 1)⟩,
             ⟨(some 76), (some (74, true)), .ld none (.t 75)⟩,
             ⟨(some 77), (some (74, true)), .len 0 (.t 76)⟩,
             ⟨(some 78), (some (74, true)), .bin .eql (.t 77) (.c (.i .i64 2))⟩,
             ⟨(some 79), none, .pick (.t 74) (.t 78) (.c (.b false))⟩,
             ⟨(some 80), none, .mv (.t 79)⟩,
             ⟨(some 81), (some (80, true)), .ld (some 4) (.t 1)⟩,
             ⟨(some 82), (some (80, true)), .call 20 [(.t 81)]⟩,
             ⟨(some 83), none, .pick (.t 80) (.t 82) (.c (.b false))⟩,
             ⟨(some 0), none, .mv (.t 83)⟩])
           .ret))))))))))
def r21 : List Rr := [.tmp 0]
theorem ok21 : FnOk Try.prog 21 c21 r21 84 := ⟨Try.f21, (Try.f21.body).getD .skip, Try.func21, rfl, by kernel_rfl, by kernel_rfl, rfl⟩

/-- additive/additivelaw51.heavy -/
def c22 : C :=
 (.seq
  (.reg [
    ⟨(some 1), none, .box (.t 0)⟩,
    ⟨(some 2), none, .mv (.c (.b false))⟩])
  (.seq
   (.seq
    (.reg [
      ⟨(some 5), none, .fa 0 (.t 1)⟩,
      ⟨(some 6), none, .fa 0 (.t 5)⟩,
      ⟨(some 7), none, .ld none (.t 6)⟩,
      ⟨(some 8), none, .len 0 (.t 7)⟩,
      ⟨(some 9), none, .bin .gtr (.t 8) (.c (.i .i64 259))⟩,
      ⟨(some 10), none, .mv (.t 9)⟩,
      ⟨(some 11), (some (10, false)), .fa 5 (.t 1)⟩,
      ⟨(some 12), (some (10, false)), .ld none (.t 11)⟩,
      ⟨(some 13), (some (10, false)), .len 1 (.t 12)⟩,
      ⟨(some 14), (some (10, false)), .bin .gtr (.t 13) (.c (.i .i64 1000))⟩,
      ⟨(some 15), none, .pick (.t 10) (.c (.b true)) (.t 14)⟩])
    (.ite (.t 15)
     (.seq
      (.reg [
        ⟨(some 2), none, .mv (.c (.b true))⟩])
      .ret)
     .skip))
   (.seq
    (.seq
     (.reg [
       ⟨(some 16), none, .fa 0 (.t 1)⟩,
       ⟨(some 17), none, .fa 0 (.t 16)⟩,
       ⟨(some 18), none, .ld none (.t 17)⟩,
       ⟨(some 19), none, .len 0 (.t 18)⟩,
       ⟨(some 20), none, .mv (.c (.i .i64 0))⟩])
     (.blk 0
      (.loop
       (.seq
        (.reg [
          ⟨(some 21), none, .bin .lss (.t 20) (.t 19)⟩])
        (.seq
         (.ite (.t 21)
          .skip
          (.exit 0))
         (.seq
          (.blk 1
           (.seq
            (.reg [
              ⟨(some 22), none, .ia 1 (.t 18) (.t 20)⟩,
              ⟨(some 23), none, .ld none (.t 22)⟩,
              ⟨(some 4), none, .mv (.t 23)⟩])
            (.seq
             (.reg [
               ⟨(some 24), none, .mv (.t 4)⟩,
               ⟨(some 25), none, .len 1 (.t 24)⟩,
               ⟨(some 26), none, .bin .gtr (.t 25) (.c (.i .i64 1000))⟩])
             (.ite (.t 26)
              (.seq
               (.reg [
                 ⟨(some 2), none, .mv (.c (.b true))⟩])
               .ret)
              .skip))))
          (.reg [
            ⟨(some 27), none, .bin .add (.t 20) (.c (.i .i64 1))⟩,
            ⟨(some 20), none, .mv (.t 27)⟩])))))))
    (.seq
     (.reg [
       ⟨(some 2), none, .mv (.c (.b false))⟩])
     .ret))))
def r22 : List Rr := [.tmp 2]
theorem ok22 : FnOk Try.prog 22 c22 r22 28 := ⟨Try.f22, (Try.f22.body).getD .skip, Try.func22, rfl, by kernel_rfl, by kernel_rfl, rfl⟩

/-- additive/flash.Read -/
def c23 : C :=
 (.seq
  (.reg [
    ⟨(some 2), none, .box (.t 0)⟩,
    ⟨(some 4), none, .mv (.c (.s []))⟩,
    ⟨(some 5), none, .mv (.c (.i .i64 0))⟩])
  (.seq
   (.seq
    (.reg [
      ⟨(some 6), none, .ld (some 4) (.t 2)⟩,
      ⟨(some 7), none, .mv (.t 1)⟩,
      ⟨(some 8), none, .call 49 [(.t 6), (.t 7)]⟩,
      ⟨(some 9), none, .un .not (.t 8)⟩])
    (.ite (.t 9)
     (.seq
      (.reg [
        ⟨(some 4), none, .mv (.c (.s []))⟩,
        ⟨(some 5), none, .mv (.c (.i .i64 1))⟩])
      .ret)
     .skip))
   (.seq
    (.seq
     (.reg [
       ⟨(some 10), none, .fa 2 (.t 2)⟩,
       ⟨(some 11), none, .ld none (.t 10)⟩])
     (.ite (.t 11)
      (.seq
       (.reg [
         ⟨(some 4), none, .mv (.c (.s []))⟩,
         ⟨(some 5), none, .mv (.c (.i .i64 17))⟩])
       .ret)
      .skip))
    (.seq
     (.reg [
       ⟨(some 12), none, .fa 0 (.t 2)⟩,
       ⟨(some 13), none, .ld none (.t 12)⟩,
       ⟨(some 14), none, .mv (.t 1)⟩,
       ⟨(some 15), none, .ia 1 (.t 13) (.t 14)⟩,
       ⟨(some 16), none, .ld none (.t 15)⟩,
       ⟨(some 4), none, .mv (.t 16)⟩,
       ⟨(some 5), none, .mv (.c (.i .i64 0))⟩])
     .ret))))
def r23 : List Rr := [.tmp 4, .tmp 5]
theorem ok23 : FnOk Try.prog 23 c23 r23 17 := ⟨Try.f23, (Try.f23.body).getD .skip, Try.func23, rfl, by kernel_rfl, by kernel_rfl, rfl⟩

/-- additive/additiveref51.Read -/
def c24 : C :=
 (.seq
  (.reg [
    ⟨(some 2), none, .box (.t 0)⟩,
    ⟨(some 4), none, .mv (.c (.s []))⟩,
    ⟨(some 5), none, .mv (.c (.i .i64 0))⟩])
  (.seq
   (.seq
    (.reg [
      ⟨(some 6), none, .ld (some 4) (.t 2)⟩,
      ⟨(some 7), none, .call 25 [(.t 6)]⟩,
      ⟨(some 8), none, .un .not (.t 7)⟩,
      ⟨(some 9), none, .mv (.t 8)⟩,
      ⟨(some 10), (some (9, false)), .mv (.t 1)⟩,
      ⟨(some 11), (some (9, false)), .bin .lss (.t 10) (.c (.i .i64 0))⟩,
      ⟨(some 12), none, .pick (.t 9) (.c (.b true)) (.t 11)⟩,
      ⟨(some 13), none, .mv (.t 12)⟩,
      ⟨(some 14), (some (13, false)), .mv (.t 1)⟩,
      ⟨(some 15), (some (13, false)), .fa 0 (.t 2)⟩,
      ⟨(some 16), (some (13, false)), .ld none (.t 15)⟩,
      ⟨(some 17), (some (13, false)), .len 0 (.t 16)⟩,
      ⟨(some 18), (some (13, false)), .bin .geq (.t 14) (.t 17)⟩,
      ⟨(some 19), none, .pick (.t 13) (.c (.b true)) (.t 18)⟩])
    (.ite (.t 19)
     (.seq
      (.reg [
        ⟨(some 4), none, .mv (.c (.s []))⟩,
        ⟨(some 5), none, .mv (.c (.i .i64 1))⟩])
      .ret)
     .skip))
   (.seq
    (.seq
     (.reg [
       ⟨(some 20), none, .fa 2 (.t 2)⟩,
       ⟨(some 21), none, .ld none (.t 20)⟩])
     (.ite (.t 21)
      (.seq
       (.reg [
         ⟨(some 4), none, .mv (.c (.s []))⟩,
         ⟨(some 5), none, .mv (.c (.i .i64 17))⟩])
       .ret)
      .skip))
    (.seq
     (.reg [
       ⟨(some 22), none, .fa 0 (.t 2)⟩,
       ⟨(some 23), none, .ld none (.t 22)⟩,
       ⟨(some 24), none, .mv (.t 1)⟩,
       ⟨(some 25), none, .ia 1 (.t 23) (.t 24)⟩,
       ⟨(some 26), none, .ld none (.t 25)⟩,
       ⟨(some 4), none, .mv (.t 26)⟩,
       ⟨(some 5), none, .mv (.c (.i .i64 0))⟩])
     .ret))))
def r24 : List Rr := [.tmp 4, .tmp 5]
theorem ok24 : FnOk Try.prog 24 c24 r24 27 := ⟨Try.f24, (Try.f24.body).getD .skip, Try.func24, rfl, by kernel_rfl, by kernel_rfl, rfl⟩

/-- additive/additiveref51.Valid -/
def c25 : C :=
 (.seq
  (.reg [
    ⟨(some 1), none, .box (.t 0)⟩,
    ⟨(some 2), none, .mv (.c (.b false))⟩])
  (.seq
   (.seq
    (.reg [
      ⟨(some 5), none, .fa 0 (.t 1)⟩,
      ⟨(some 6), none, .ld none (.t 5)⟩,
      ⟨(some 7), none, .len 0 (.t 6)⟩,
      ⟨(some 8), none, .mv (.c (.i .i64 0))⟩])
    (.blk 0
     (.loop
      (.seq
       (.reg [
         ⟨(some 9), none, .bin .lss (.t 8) (.t 7)⟩])
       (.seq
        (.ite (.t 9)
         .skip
         (.exit 0))
        (.seq
         (.blk 1
          (.seq
           (.reg [
             ⟨(some 10), none, .ia 1 (.t 6) (.t 8)⟩,
             ⟨(some 11), none, .ld none (.t 10)⟩,
             ⟨(some 4), none, .mv (.t 11)⟩])
           (.seq
            (.reg [
              ⟨(some 12), none, .mv (.t 4)⟩,
              ⟨(some 13), none, .len 1 (.t 12)⟩,
              ⟨(some 14), none, .bin .neq (.t 13) (.c (.i .i64 64))⟩])
            (.ite (.t 14)
             (.seq
              (.reg [
                ⟨(some 2), none, .mv (.c (.b false))⟩])
              .ret)
             .skip))))
         (.reg [
           ⟨(some 15), none, .bin .add (.t 8) (.c (.i .i64 1))⟩,
           ⟨(some 8), none, .mv (.t 15)⟩])))))))
   (.seq
    (.reg [
      ⟨(some 16), none, .fa 0 (.t 1)⟩,
      ⟨(some 17), none, .ld none (.t 16)⟩,
      ⟨(some 18), none, .len 0 (.t 17)⟩,
      ⟨(some 19), none, .bin .geq (.t 18) (.c (.i .i64 2))⟩,
      ⟨(some 20), none, .mv (.t 19)⟩,
      ⟨(some 21), (some (20, true)), .fa 0 (.t 1)⟩,
      ⟨(some 22), (some (20, true)), .ld none (.t 21)⟩,
      ⟨(some 23), (some (20, true)), .len 0 (.t 22)⟩,
      ⟨(some 24), (some (20, true)), .bin .leq (.t 23) (.c (.i .i64 256))⟩,
      ⟨(some 25), none, .pick (.t 20) (.t 24) (.c (.b false))⟩,
      ⟨(some 26), none, .mv (.t 25)⟩,
      ⟨(some 27), (some (26, true)), .fa 1 (.t 1)⟩,
      ⟨(some 28), (some (26, true)), .ld none (.t 27)⟩,
      ⟨(some 29), (some (26, true)), .bin .geq (.t 28) (.c (.i .i64 0))⟩,
      ⟨(some 30), none, .pick (.t 26) (.t 29) (.c (.b false))⟩,
      ⟨(some 31), none, .mv (.t 30)⟩,
      ⟨(some 32), (some (31, true)), .fa 1 (.t 1)⟩,
      ⟨(some 33), (some (31, true)), .ld none (.t 32)⟩,
      ⟨(some 34), (some (31, true)), .bin .leq (.t 33) (.c (.i .i64 1048576))⟩,
      ⟨(some 35), none, .pick (.t 31) (.t 34) (.c (.b false))⟩,
      ⟨(some 36), none, .mv (.t 35)⟩,
      ⟨(some 37), (some (36, true)), .fa 3 (.t 1)⟩,
      ⟨(some 38), (some (36, true)), .ld none (.t 37)⟩,
      ⟨(some 39), (some (36, true)), .bin .geq (.t 38) (.c (.i .i64 0))⟩,
      ⟨(some 40), none, .pick (.t 36) (.t 39) (.c (.b false))⟩,
      ⟨(some 41), none, .mv (.t 40)⟩,
      ⟨(some 42), (some (41, true)), .fa 3 (.t 1)⟩,
      ⟨(some 43), (some (41, true)), .ld none (.t 42)⟩,
      ⟨(some 44), (some (41, true)), .bin .leq (.t 43) (.c (.i .i64 64))⟩,
      ⟨(some 45), none, .pick (.t 41) (.t 44) (.c (.b false))⟩,
      ⟨(some 2), none, .mv (.t 45)⟩])
    .ret)))
def r25 : List Rr := [.tmp 2]
theorem ok25 : FnOk Try.prog 25 c25 r25 46 := ⟨Try.f25, (Try.f25.body).getD .skip, Try.func25, rfl, by kernel_rfl, by kernel_rfl, rfl⟩

/-- additive/flash.Write -/
def c26 : C :=
 (.seq
  (.reg [
    ⟨(some 3), none, .box (.t 0)⟩,
    ⟨(some 6), none, .alloc [.nil, (.i .i64 0), (.b false), (.i .i64 0)]⟩,
    ⟨(some 7), none, .mv (.c (.i .i64 0))⟩])
  (.seq
   (.reg [
     ⟨(some 10), none, .ld (some 4) (.t 3)⟩,
     ⟨(some 11), none, .call 50 [(.t 10)]⟩,
     ⟨(some 8), none, .alloc [.nil, (.i .i64 0), (.b false), (.i .i64 0)]⟩,
     ⟨none, none, .st 4 (.t 8) (.t 11)⟩])
   (.seq
    (.seq
     (.reg [
       ⟨(some 12), none, .ld (some 4) (.t 3)⟩,
       ⟨(some 13), none, .mv (.t 1)⟩,
       ⟨(some 14), none, .call 49 [(.t 12), (.t 13)]⟩,
       ⟨(some 15), none, .un .not (.t 14)⟩,
       ⟨(some 16), none, .mv (.t 15)⟩,
       ⟨(some 17), (some (16, false)), .mv (.t 2)⟩,
       ⟨(some 18), (some (16, false)), .len 1 (.t 17)⟩,
       ⟨(some 19), (some (16, false)), .bin .neq (.t 18) (.c (.i .i64 64))⟩,
       ⟨(some 20), none, .pick (.t 16) (.c (.b true)) (.t 19)⟩])
     (.ite (.t 20)
      (.seq
       (.reg [
         ⟨(some 21), none, .ld (some 4) (.t 8)⟩,
         ⟨none, none, .st 4 (.t 6) (.t 21)⟩,
         ⟨(some 7), none, .mv (.c (.i .i64 1))⟩])
       .ret)
      .skip))
    (.seq
     (.seq
      (.reg [
        ⟨(some 22), none, .fa 2 (.t 3)⟩,
        ⟨(some 23), none, .ld none (.t 22)⟩])
      (.ite (.t 23)
       (.seq
        (.reg [
          ⟨(some 24), none, .ld (some 4) (.t 8)⟩,
          ⟨none, none, .st 4 (.t 6) (.t 24)⟩,
          ⟨(some 7), none, .mv (.c (.i .i64 17))⟩])
        .ret)
       .skip))
     (.seq
      (.reg [
        ⟨(some 25), none, .fa 0 (.t 3)⟩,
        ⟨(some 26), none, .ld none (.t 25)⟩,
        ⟨(some 27), none, .mv (.t 1)⟩,
        ⟨(some 28), none, .ia 1 (.t 26) (.t 27)⟩,
        ⟨(some 29), none, .ld none (.t 28)⟩,
        ⟨(some 30), none, .s2b (.t 29)⟩,
        ⟨(some 9), none, .mv (.t 30)⟩])
      (.seq
       (.seq
        (.reg [
          ⟨(some 31), none, .fa 1 (.t 3)⟩,
          ⟨(some 32), none, .ld none (.t 31)⟩,
          ⟨(some 33), none, .bin .eql (.t 32) (.c (.i .i64 1))⟩])
        (.ite (.t 33)
         (.seq
          (.reg [
            ⟨(some 34), none, .mv (.t 9)⟩,
            ⟨(some 35), none, .mv (.t 2)⟩,
            ⟨(some 36), none, .fa 3 (.t 3)⟩,
            ⟨(some 37), none, .ld none (.t 36)⟩,
            ⟨(some 38), none, .slcs (.t 35) none (some (.t 37))⟩,
            ⟨(some 39), none, .copy 1 (.t 34) (.t 38)⟩])
          (.seq
           (.reg [
             ⟨(some 40), none, .fa 0 (.t 8)⟩,
             ⟨(some 41), none, .ld none (.t 40)⟩,
             ⟨(some 42), none, .mv (.t 1)⟩,
             ⟨(some 43), none, .mv (.t 9)⟩,
             ⟨(some 44), none, .b2s (.t 43)⟩,
             ⟨(some 45), none, .ia 1 (.t 41) (.t 42)⟩,
             ⟨none, none, .st 1 (.t 45) (.t 44)⟩])
           (.seq
            (.reg [
              ⟨(some 46), none, .fa 2 (.t 8)⟩,
              ⟨none, none, .st 1 (.t 46) (.c (.b true))⟩,
              ⟨(some 47), none, .fa 1 (.t 8)⟩,
              ⟨none, none, .st 1 (.t 47) (.c (.i .i64 0))⟩,
              ⟨(some 48), none, .fa 3 (.t 8)⟩,
              ⟨none, none, .st 1 (.t 48) (.c (.i .i64 0))⟩])
            (.seq
             (.reg [
               ⟨(some 49), none, .ld (some 4) (.t 8)⟩,
               ⟨none, none, .st 4 (.t 6) (.t 49)⟩,
               ⟨(some 7), none, .mv (.c (.i .i64 17))⟩])
             .ret))))
         .skip))
       (.seq
        (.reg [
          ⟨(some 50), none, .mv (.t 9)⟩,
          ⟨(some 51), none, .mv (.t 2)⟩,
          ⟨(some 52), none, .copy 1 (.t 50) (.t 51)⟩])
        (.seq
         (.reg [
           ⟨(some 53), none, .fa 0 (.t 8)⟩,
           ⟨(some 54), none, .ld none (.t 53)⟩,
           ⟨(some 55), none, .mv (.t 1)⟩,
           ⟨(some 56), none, .mv (.t 9)⟩,
           ⟨(some 57), none, .b2s (.t 56)⟩,
           ⟨(some 58), none, .ia 1 (.t 54) (.t 55)⟩,
           ⟨none, none, .st 1 (.t 58) (.t 57)⟩])
         (.seq
          (.reg [
            ⟨(some 59), none, .fa 1 (.t 3)⟩,
            ⟨(some 60), none, .ld none (.t 59)⟩,
            ⟨(some 61), none, .bin .sub (.t 60) (.c (.i .i64 1))⟩,
            ⟨(some 62), none, .mx [(.c (.i .i64 0)), (.t 61)]⟩,
            ⟨(some 63), none, .fa 1 (.t 8)⟩,
            ⟨none, none, .st 1 (.t 63) (.t 62)⟩])
          (.seq
           (.reg [
             ⟨(some 64), none, .ld (some 4) (.t 8)⟩,
             ⟨none, none, .st 4 (.t 6) (.t 64)⟩,
             ⟨(some 7), none, .mv (.c (.i .i64 0))⟩])
           .ret))))))))))
def r26 : List Rr := [.cell 6 (some 4), .tmp 7]
theorem ok26 : FnOk Try.prog 26 c26 r26 65 := ⟨Try.f26, (Try.f26.body).getD .skip, Try.func26, rfl, by kernel_rfl, by kernel_rfl, rfl⟩

/-- additive/additiveref51.Write -/
def c27 : C :=
 (.seq
  (.reg [
    ⟨(some 3), none, .box (.t 0)⟩,
    ⟨(some 6), none, .alloc [.nil, (.i .i64 0), (.b false), (.i .i64 0)]⟩,
    ⟨(some 7), none, .mv (.c (.i .i64 0))⟩])
  (.seq
   (.reg [
     ⟨(some 9), none, .ld (some 4) (.t 3)⟩,
     ⟨(some 10), none, .call 51 [(.t 9)]⟩,
     ⟨(some 8), none, .alloc [.nil, (.i .i64 0), (.b false), (.i .i64 0)]⟩,
     ⟨none, none, .st 4 (.t 8) (.t 10)⟩])
   (.seq
    (.seq
     (.reg [
       ⟨(some 11), none, .ld (some 4) (.t 3)⟩,
       ⟨(some 12), none, .call 25 [(.t 11)]⟩,
       ⟨(some 13), none, .un .not (.t 12)⟩,
       ⟨(some 14), none, .mv (.t 13)⟩,
       ⟨(some 15), (some (14, false)), .mv (.t 1)⟩,
       ⟨(some 16), (some (14, false)), .bin .lss (.t 15) (.c (.i .i64 0))⟩,
       ⟨(some 17), none, .pick (.t 14) (.c (.b true)) (.t 16)⟩,
       ⟨(some 18), none, .mv (.t 17)⟩,
       ⟨(some 19), (some (18, false)), .mv (.t 1)⟩,
       ⟨(some 20), (some (18, false)), .fa 0 (.t 3)⟩,
       ⟨(some 21), (some (18, false)), .ld none (.t 20)⟩,
       ⟨(some 22), (some (18, false)), .len 0 (.t 21)⟩,
       ⟨(some 23), (some (18, false)), .bin .geq (.t 19) (.t 22)⟩,
       ⟨(some 24), none, .pick (.t 18) (.c (.b true)) (.t 23)⟩,
       ⟨(some 25), none, .mv (.t 24)⟩,
       ⟨(some 26), (some (25, false)), .mv (.t 2)⟩,
       ⟨(some 27), (some (25, false)), .len 1 (.t 26)⟩,
       ⟨(some 28), (some (25, false)), .bin .neq (.t 27) (.c (.i .i64 64))⟩,
       ⟨(some 29), none, .pick (.t 25) (.c (.b true)) (.t 28)⟩])
     (.ite (.t 29)
      (.seq
       (.reg [
         ⟨(some 30), none, .ld (some 4) (.t 8)⟩,
         ⟨none, none, .st 4 (.t 6) (.t 30)⟩,
         ⟨(some 7), none, .mv (.c (.i .i64 1))⟩])
       .ret)
      .skip))
    (.seq
     (.seq
      (.reg [
        ⟨(some 31), none, .fa 2 (.t 3)⟩,
        ⟨(some 32), none, .ld none (.t 31)⟩])
      (.ite (.t 32)
       (.seq
        (.reg [
          ⟨(some 33), none, .ld (some 4) (.t 8)⟩,
          ⟨none, none, .st 4 (.t 6) (.t 33)⟩,
          ⟨(some 7), none, .mv (.c (.i .i64 17))⟩])
        .ret)
       .skip))
     (.seq
      (.seq
       (.reg [
         ⟨(some 34), none, .fa 1 (.t 3)⟩,
         ⟨(some 35), none, .ld none (.t 34)⟩,
         ⟨(some 36), none, .bin .eql (.t 35) (.c (.i .i64 1))⟩])
       (.ite (.t 36)
        (.seq
         (.drw [
           ⟨(some 37), none, .fa 0 (.t 8)⟩,
           ⟨(some 38), none, .ld none (.t 37)⟩,
           ⟨(some 39), none, .mv (.t 1)⟩,
           ⟨(some 40), none, .mv (.t 2)⟩,
           ⟨(some 41), none, .fa 3 (.t 3)⟩,
           ⟨(some 42), none, .ld none (.t 41)⟩,
           ⟨(some 43), none, .slcs (.t 40) none (some (.t 42))⟩,
           ⟨(some 44), none, .fa 0 (.t 3)⟩,
           ⟨(some 45), none, .ld none (.t 44)⟩,
           ⟨(some 46), none, .mv (.t 1)⟩,
           ⟨(some 47), none, .ia 1 (.t 45) (.t 46)⟩,
           ⟨(some 48), none, .ld none (.t 47)⟩,
           ⟨(some 49), none, .fa 3 (.t 3)⟩,
           ⟨(some 50), none, .ld none (.t 49)⟩,
           ⟨(some 51), none, .slcs (.t 48) (some (.t 50)) none⟩,
           ⟨(some 52), none, .bin .add (.t 43) (.t 51)⟩,
           ⟨(some 53), none, .ia 1 (.t 38) (.t 39)⟩,
           ⟨none, none, .st 1 (.t 53) (.t 52)⟩] [])
         (.seq
          (.reg [
            ⟨(some 54), none, .fa 2 (.t 8)⟩,
            ⟨none, none, .st 1 (.t 54) (.c (.b true))⟩])
          (.seq
           (.reg [
             ⟨(some 55), none, .fa 1 (.t 8)⟩,
             ⟨none, none, .st 1 (.t 55) (.c (.i .i64 0))⟩])
           (.seq
            (.reg [
              ⟨(some 56), none, .fa 3 (.t 8)⟩,
              ⟨none, none, .st 1 (.t 56) (.c (.i .i64 0))⟩])
            (.seq
             (.reg [
               ⟨(some 57), none, .ld (some 4) (.t 8)⟩,
               ⟨none, none, .st 4 (.t 6) (.t 57)⟩,
               ⟨(some 7), none, .mv (.c (.i .i64 17))⟩])
             .ret)))))
        .skip))
      (.seq
       (.reg [
         ⟨(some 58), none, .fa 0 (.t 8)⟩,
         ⟨(some 59), none, .ld none (.t 58)⟩,
         ⟨(some 60), none, .mv (.t 1)⟩,
         ⟨(some 61), none, .mv (.t 2)⟩,
         ⟨(some 62), none, .ia 1 (.t 59) (.t 60)⟩,
         ⟨none, none, .st 1 (.t 62) (.t 61)⟩])
       (.seq
        (.reg [
          ⟨(some 63), none, .fa 1 (.t 3)⟩,
          ⟨(some 64), none, .ld none (.t 63)⟩,
          ⟨(some 65), none, .bin .sub (.t 64) (.c (.i .i64 1))⟩,
          ⟨(some 66), none, .mx [(.c (.i .i64 0)), (.t 65)]⟩,
          ⟨(some 67), none, .fa 1 (.t 8)⟩,
          ⟨none, none, .st 1 (.t 67) (.t 66)⟩])
        (.seq
         (.reg [
           ⟨(some 68), none, .ld (some 4) (.t 8)⟩,
           ⟨none, none, .st 4 (.t 6) (.t 68)⟩,
           ⟨(some 7), none, .mv (.c (.i .i64 0))⟩])
         .ret))))))))
def r27 : List Rr := [.cell 6 (some 4), .tmp 7]
theorem ok27 : FnOk Try.prog 27 c27 r27 69 := ⟨Try.f27, (Try.f27.body).getD .skip, Try.func27, rfl, by kernel_rfl, by kernel_rfl, rfl⟩

/-- additive/flash.Fail -/
def c28 : C :=
 (.seq
  (.reg [
    ⟨(some 3), none, .box (.t 0)⟩,
    ⟨(some 6), none, .alloc [.nil, (.i .i64 0), (.b false), (.i .i64 0)]⟩])
  (.seq
   (.reg [
     ⟨(some 8), none, .ld (some 4) (.t 3)⟩,
     ⟨(some 9), none, .call 50 [(.t 8)]⟩,
     ⟨(some 7), none, .alloc [.nil, (.i .i64 0), (.b false), (.i .i64 0)]⟩,
     ⟨none, none, .st 4 (.t 7) (.t 9)⟩])
   (.seq
    (.blk 0
     (.seq
      (.reg [
        ⟨(some 18), none, .fa 2 (.t 3)⟩,
        ⟨(some 19), none, .ld none (.t 18)⟩,
        ⟨(some 20), none, .mv (.t 19)⟩,
        ⟨(some 21), (some (20, false)), .ld (some 4) (.t 3)⟩,
        ⟨(some 22), (some (20, false)), .call 20 [(.t 21)]⟩,
        ⟨(some 23), (some (20, false)), .un .not (.t 22)⟩,
        ⟨(some 24), none, .pick (.t 20) (.c (.b true)) (.t 23)⟩,
        ⟨(some 17), none, .mv (.t 24)⟩])
      (.ite (.t 17)
       .skip
       (.seq
        (.reg [
          ⟨(some 26), none, .mv (.t 1)⟩,
          ⟨(some 27), none, .bin .lss (.t 26) (.c (.i .i64 1))⟩,
          ⟨(some 25), none, .mv (.t 27)⟩])
        (.ite (.t 25)
         (.reg [
           ⟨(some 28), none, .fa 2 (.t 7)⟩,
           ⟨none, none, .st 1 (.t 28) (.c (.b true))⟩,
           ⟨(some 29), none, .fa 1 (.t 7)⟩,
           ⟨none, none, .st 1 (.t 29) (.c (.i .i64 0))⟩,
           ⟨(some 30), none, .fa 3 (.t 7)⟩,
           ⟨none, none, .st 1 (.t 30) (.c (.i .i64 0))⟩])
         (.reg [
           ⟨(some 10), none, .mv (.t 1)⟩,
           ⟨(some 11), none, .mn [(.t 10), (.c (.i .i64 1048576))]⟩,
           ⟨(some 12), none, .mv (.t 2)⟩,
           ⟨(some 13), none, .mn [(.t 12), (.c (.i .i64 64))]⟩,
           ⟨(some 14), none, .mx [(.c (.i .i64 0)), (.t 13)]⟩,
           ⟨(some 15), none, .fa 1 (.t 7)⟩,
           ⟨none, none, .st 1 (.t 15) (.t 11)⟩,
           ⟨(some 16), none, .fa 3 (.t 7)⟩,
           ⟨none, none, .st 1 (.t 16) (.t 14)⟩]))))))
    (.seq
     (.reg [
       ⟨(some 31), none, .ld (some 4) (.t 7)⟩,
       ⟨none, none, .st 4 (.t 6) (.t 31)⟩])
     .ret))))
def r28 : List Rr := [.cell 6 (some 4)]
theorem ok28 : FnOk Try.prog 28 c28 r28 32 := ⟨Try.f28, (Try.f28.body).getD .skip, Try.func28, rfl, by kernel_rfl, by kernel_rfl, rfl⟩

/-- additive/flash.Power -/
def c29 : C :=
 (.seq
  (.reg [
    ⟨(some 1), none, .box (.t 0)⟩,
    ⟨(some 2), none, .alloc [.nil, (.i .i64 0), (.b false), (.i .i64 0)]⟩])
  (.seq
   (.reg [
     ⟨(some 4), none, .ld (some 4) (.t 1)⟩,
     ⟨(some 5), none, .call 50 [(.t 4)]⟩,
     ⟨(some 3), none, .alloc [.nil, (.i .i64 0), (.b false), (.i .i64 0)]⟩,
     ⟨none, none, .st 4 (.t 3) (.t 5)⟩])
   (.seq
    (.seq
     (.reg [
       ⟨(some 6), none, .ld (some 4) (.t 1)⟩,
       ⟨(some 7), none, .call 20 [(.t 6)]⟩])
     (.ite (.t 7)
      (.reg [
        ⟨(some 8), none, .fa 2 (.t 3)⟩,
        ⟨none, none, .st 1 (.t 8) (.c (.b false))⟩,
        ⟨(some 9), none, .fa 1 (.t 3)⟩,
        ⟨none, none, .st 1 (.t 9) (.c (.i .i64 0))⟩,
        ⟨(some 10), none, .fa 3 (.t 3)⟩,
        ⟨none, none, .st 1 (.t 10) (.c (.i .i64 0))⟩])
      .skip))
    (.seq
     (.reg [
       ⟨(some 11), none, .ld (some 4) (.t 3)⟩,
       ⟨none, none, .st 4 (.t 2) (.t 11)⟩])
     .ret))))
def r29 : List Rr := [.cell 2 (some 4)]
theorem ok29 : FnOk Try.prog 29 c29 r29 12 := ⟨Try.f29, (Try.f29.body).getD .skip, Try.func29, rfl, by kernel_rfl, by kernel_rfl, rfl⟩

/-- additive/additiveref51.Fail -/
def c30 : C :=
 (.seq
  (.reg [
    ⟨(some 3), none, .box (.t 0)⟩,
    ⟨(some 6), none, .alloc [.nil, (.i .i64 0), (.b false), (.i .i64 0)]⟩])
  (.seq
   (.reg [
     ⟨(some 8), none, .ld (some 4) (.t 3)⟩,
     ⟨(some 9), none, .call 51 [(.t 8)]⟩,
     ⟨(some 7), none, .alloc [.nil, (.i .i64 0), (.b false), (.i .i64 0)]⟩,
     ⟨none, none, .st 4 (.t 7) (.t 9)⟩])
   (.seq
    (.seq
     (.reg [
       ⟨(some 10), none, .ld (some 4) (.t 3)⟩,
       ⟨(some 11), none, .call 25 [(.t 10)]⟩,
       ⟨(some 12), none, .un .not (.t 11)⟩,
       ⟨(some 13), none, .mv (.t 12)⟩,
       ⟨(some 14), (some (13, false)), .fa 2 (.t 3)⟩,
       ⟨(some 15), (some (13, false)), .ld none (.t 14)⟩,
       ⟨(some 16), none, .pick (.t 13) (.c (.b true)) (.t 15)⟩])
     (.ite (.t 16)
      (.seq
       (.reg [
         ⟨(some 17), none, .ld (some 4) (.t 7)⟩,
         ⟨none, none, .st 4 (.t 6) (.t 17)⟩])
       .ret)
      .skip))
    (.seq
     (.seq
      (.reg [
        ⟨(some 18), none, .mv (.t 1)⟩,
        ⟨(some 19), none, .bin .lss (.t 18) (.c (.i .i64 1))⟩])
      (.ite (.t 19)
       (.seq
        (.reg [
          ⟨(some 20), none, .fa 2 (.t 7)⟩,
          ⟨none, none, .st 1 (.t 20) (.c (.b true))⟩])
        (.seq
         (.reg [
           ⟨(some 21), none, .fa 1 (.t 7)⟩,
           ⟨none, none, .st 1 (.t 21) (.c (.i .i64 0))⟩])
         (.seq
          (.reg [
            ⟨(some 22), none, .fa 3 (.t 7)⟩,
            ⟨none, none, .st 1 (.t 22) (.c (.i .i64 0))⟩])
          (.seq
           (.reg [
             ⟨(some 23), none, .ld (some 4) (.t 7)⟩,
             ⟨none, none, .st 4 (.t 6) (.t 23)⟩])
           .ret))))
       .skip))
     (.seq
      (.reg [
        ⟨(some 24), none, .mv (.t 1)⟩,
        ⟨(some 25), none, .mn [(.t 24), (.c (.i .i64 1048576))]⟩,
        ⟨(some 26), none, .fa 1 (.t 7)⟩,
        ⟨none, none, .st 1 (.t 26) (.t 25)⟩])
      (.seq
       (.reg [
         ⟨(some 27), none, .mv (.t 2)⟩,
         ⟨(some 28), none, .mn [(.t 27), (.c (.i .i64 64))]⟩,
         ⟨(some 29), none, .mx [(.c (.i .i64 0)), (.t 28)]⟩,
         ⟨(some 30), none, .fa 3 (.t 7)⟩,
         ⟨none, none, .st 1 (.t 30) (.t 29)⟩])
       (.seq
        (.reg [
          ⟨(some 31), none, .ld (some 4) (.t 7)⟩,
          ⟨none, none, .st 4 (.t 6) (.t 31)⟩])
        .ret)))))))
def r30 : List Rr := [.cell 6 (some 4)]
theorem ok30 : FnOk Try.prog 30 c30 r30 32 := ⟨Try.f30, (Try.f30.body).getD .skip, Try.func30, rfl, by kernel_rfl, by kernel_rfl, rfl⟩

/-- additive/additiveref51.Power -/
def c31 : C :=
 (.seq
  (.reg [
    ⟨(some 1), none, .box (.t 0)⟩,
    ⟨(some 2), none, .alloc [.nil, (.i .i64 0), (.b false), (.i .i64 0)]⟩])
  (.seq
   (.reg [
     ⟨(some 4), none, .ld (some 4) (.t 1)⟩,
     ⟨(some 5), none, .call 51 [(.t 4)]⟩,
     ⟨(some 3), none, .alloc [.nil, (.i .i64 0), (.b false), (.i .i64 0)]⟩,
     ⟨none, none, .st 4 (.t 3) (.t 5)⟩])
   (.seq
    (.seq
     (.reg [
       ⟨(some 6), none, .ld (some 4) (.t 1)⟩,
       ⟨(some 7), none, .call 25 [(.t 6)]⟩])
     (.ite (.t 7)
      (.seq
       (.reg [
         ⟨(some 8), none, .fa 2 (.t 3)⟩,
         ⟨none, none, .st 1 (.t 8) (.c (.b false))⟩])
       (.seq
        (.reg [
          ⟨(some 9), none, .fa 1 (.t 3)⟩,
          ⟨none, none, .st 1 (.t 9) (.c (.i .i64 0))⟩])
        (.reg [
          ⟨(some 10), none, .fa 3 (.t 3)⟩,
          ⟨none, none, .st 1 (.t 10) (.c (.i .i64 0))⟩])))
      .skip))
    (.seq
     (.reg [
       ⟨(some 11), none, .ld (some 4) (.t 3)⟩,
       ⟨none, none, .st 4 (.t 2) (.t 11)⟩])
     .ret))))
def r31 : List Rr := [.cell 2 (some 4)]
theorem ok31 : FnOk Try.prog 31 c31 r31 12 := ⟨Try.f31, (Try.f31.body).getD .skip, Try.func31, rfl, by kernel_rfl, by kernel_rfl, rfl⟩

/-- additive/additivelaw51.filled -/
def c32 : C :=
 (.seq
  (.reg [
    ⟨(some 2), none, .mv (.c (.s []))⟩])
  (.seq
   (.reg [
     ⟨(some 5), none, .mks 1 1 [(.i .u8 0)] (.c (.i .i64 64))⟩,
     ⟨(some 3), none, .mv (.t 5)⟩])
   (.seq
    (.seq
     (.reg [
       ⟨(some 6), none, .mv (.t 3)⟩,
       ⟨(some 7), none, .len 0 (.t 6)⟩,
       ⟨(some 8), none, .mv (.c (.i .i64 0))⟩])
     (.blk 0
      (.loop
       (.seq
        (.reg [
          ⟨(some 9), none, .bin .lss (.t 8) (.t 7)⟩])
        (.seq
         (.ite (.t 9)
          .skip
          (.exit 0))
         (.seq
          (.blk 1
           (.seq
            (.reg [
              ⟨(some 10), none, .mv (.t 8)⟩,
              ⟨(some 4), none, .mv (.t 10)⟩])
            (.reg [
              ⟨(some 11), none, .mv (.t 3)⟩,
              ⟨(some 12), none, .mv (.t 4)⟩,
              ⟨(some 13), none, .mv (.t 0)⟩,
              ⟨(some 14), none, .ia 1 (.t 11) (.t 12)⟩,
              ⟨none, none, .st 1 (.t 14) (.t 13)⟩])))
          (.reg [
            ⟨(some 15), none, .bin .add (.t 8) (.c (.i .i64 1))⟩,
            ⟨(some 8), none, .mv (.t 15)⟩])))))))
    (.seq
     (.reg [
       ⟨(some 16), none, .mv (.t 3)⟩,
       ⟨(some 17), none, .b2s (.t 16)⟩,
       ⟨(some 2), none, .mv (.t 17)⟩])
     .ret))))
def r32 : List Rr := [.tmp 2]
theorem ok32 : FnOk Try.prog 32 c32 r32 18 := ⟨Try.f32, (Try.f32.body).getD .skip, Try.func32, rfl, by kernel_rfl, by kernel_rfl, rfl⟩

/-- additive/additiveref51.zeros -/
def c48 : C :=
 (.seq
  (.reg [
    ⟨(some 0), none, .mv (.c (.s []))⟩])
  (.seq
   (.reg [
     ⟨(some 1), none, .mki 1 1 [(.i .u8 0)] (.c (.i .i64 64))⟩,
     ⟨(some 2), none, .b2s (.t 1)⟩,
     ⟨(some 0), none, .mv (.t 2)⟩])
   .ret))
def r48 : List Rr := [.tmp 0]
theorem ok48 : FnOk Try.prog 48 c48 r48 3 := ⟨Try.f48, (Try.f48.body).getD .skip, Try.func48, rfl, by kernel_rfl, by kernel_rfl, rfl⟩

/-- additive/flash.has -/
def c49 : C :=
 (.seq
  (.reg [
    ⟨(some 2), none, .box (.t 0)⟩,
    ⟨(some 4), none, .mv (.c (.b false))⟩])
  (.seq
   (.reg [
     ⟨(some 5), none, .ld (some 4) (.t 2)⟩,
     ⟨(some 6), none, .call 20 [(.t 5)]⟩,
     ⟨(some 7), none, .mv (.t 6)⟩,
     ⟨(some 8), (some (7, true)), .mv (.t 1)⟩,
     ⟨(some 9), (some (7, true)), .bin .geq (.t 8) (.c (.i .i64 0))⟩,
     ⟨(some 10), none, .pick (.t 7) (.t 9) (.c (.b false))⟩,
     ⟨(some 11), none, .mv (.t 10)⟩,
     ⟨(some 12), (some (11, true)), .mv (.t 1)⟩,
     ⟨(some 13), (some (11, true)), .fa 0 (.t 2)⟩,
     ⟨(some 14), (some (11, true)), .ld none (.t 13)⟩,
     ⟨(some 15), (some (11, true)), .len 0 (.t 14)⟩,
     ⟨(some 16), (some (11, true)), .bin .lss (.t 12) (.t 15)⟩,
     ⟨(some 17), none, .pick (.t 11) (.t 16) (.c (.b false))⟩,
     ⟨(some 4), none, .mv (.t 17)⟩])
   .ret))
def r49 : List Rr := [.tmp 4]
theorem ok49 : FnOk Try.prog 49 c49 r49 18 := ⟨Try.f49, (Try.f49.body).getD .skip, Try.func49, rfl, by kernel_rfl, by kernel_rfl, rfl⟩

/-- additive/flash.copied -/
def c50 : C :=
 (.seq
  (.reg [
    ⟨(some 1), none, .box (.t 0)⟩,
    ⟨(some 2), none, .alloc [.nil, (.i .i64 0), (.b false), (.i .i64 0)]⟩])
  (.seq
   (.reg [
     ⟨(some 3), none, .bso 1 0 [(.s [])] []⟩,
     ⟨(some 4), none, .fa 0 (.t 1)⟩,
     ⟨(some 5), none, .ld none (.t 4)⟩,
     ⟨(some 6), none, .app 1 16 (.t 3) (.t 5)⟩,
     ⟨(some 7), none, .fa 0 (.t 1)⟩,
     ⟨none, none, .st 1 (.t 7) (.t 6)⟩])
   (.seq
    (.reg [
      ⟨(some 8), none, .ld (some 4) (.t 1)⟩,
      ⟨none, none, .st 4 (.t 2) (.t 8)⟩])
    .ret)))
def r50 : List Rr := [.cell 2 (some 4)]
theorem ok50 : FnOk Try.prog 50 c50 r50 9 := ⟨Try.f50, (Try.f50.body).getD .skip, Try.func50, rfl, by kernel_rfl, by kernel_rfl, rfl⟩

/-- additive/additiveref51.again -/
def c51 : C :=
 (.seq
  (.reg [
    ⟨(some 1), none, .box (.t 0)⟩,
    ⟨(some 2), none, .alloc [.nil, (.i .i64 0), (.b false), (.i .i64 0)]⟩])
  (.seq
   (.reg [
     ⟨(some 3), none, .bso 1 0 [(.s [])] []⟩,
     ⟨(some 4), none, .fa 0 (.t 1)⟩,
     ⟨(some 5), none, .ld none (.t 4)⟩,
     ⟨(some 6), none, .app 1 16 (.t 3) (.t 5)⟩,
     ⟨(some 7), none, .fa 0 (.t 1)⟩,
     ⟨none, none, .st 1 (.t 7) (.t 6)⟩])
   (.seq
    (.reg [
      ⟨(some 8), none, .ld (some 4) (.t 1)⟩,
      ⟨none, none, .st 4 (.t 2) (.t 8)⟩])
    .ret)))
def r51 : List Rr := [.cell 2 (some 4)]
theorem ok51 : FnOk Try.prog 51 c51 r51 9 := ⟨Try.f51, (Try.f51.body).getD .skip, Try.func51, rfl, by kernel_rfl, by kernel_rfl, rfl⟩


end Go.Proofs.Ytedcbjgnidjidaa
