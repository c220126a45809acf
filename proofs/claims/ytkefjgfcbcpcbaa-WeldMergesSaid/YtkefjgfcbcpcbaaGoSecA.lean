/- The code of functions of the program, the functions that they call left open. -/
import Derived.Test.YtkefjgfcbcpcbaaGoSecH
set_option linter.unusedVariables false
set_option linter.unusedSimpArgs false
namespace Go.Abs

def law15_awake.c (section_Point section_Cut : FuncId) : C :=
 (.seq
  (.reg [
    ⟨(some 0), none, .mv (.c (.b false))⟩])
  (.seq
   (.reg [
     ⟨(some 6), none, .build [(.i .i64 0), (.i .i64 0), (.i .i64 0)] []⟩,
     ⟨(some 7), none, .build [(.i .i64 0), (.i .i64 0), (.i .i64 0)] [(0, 1, (.c (.i .i64 10))), (2, 1, (.c (.i .i64 2)))]⟩,
     ⟨(some 8), none, .call section_Point [(.t 6), (.t 7), (.c (.i .i64 0))]⟩,
     ⟨(some 5), none, .mv (.t 8)⟩,
     ⟨(some 9), none, .ext (.t 5) 0⟩,
     ⟨(some 10), none, .ext (.t 5) 1⟩,
     ⟨(some 1), none, .alloc [(.i .i64 0), (.i .i64 0)]⟩,
     ⟨none, none, .st 2 (.t 1) (.t 9)⟩,
     ⟨(some 2), none, .mv (.t 10)⟩])
   (.seq
    (.reg [
      ⟨(some 12), none, .build [(.i .i64 0), (.i .i64 0), (.i .i64 0)] []⟩,
      ⟨(some 13), none, .build [(.i .i64 0), (.i .i64 0), (.i .i64 0)] [(0, 1, (.c (.i .i64 8)))]⟩,
      ⟨(some 14), none, .build [(.i .i64 0), (.i .i64 0), (.i .i64 0)] [(2, 1, (.c (.i .i64 8)))]⟩,
      ⟨(some 15), none, .bso 3 3 [(.i .i64 0), (.i .i64 0), (.i .i64 0)] [(0, (.t 12)), (1, (.t 13)), (2, (.t 14))]⟩,
      ⟨(some 16), none, .build [(.i .i64 0), (.i .i64 0), (.i .i64 0)] [(0, 1, (.c (.i .i64 0))), (1, 1, (.c (.i .i64 1))), (2, 1, (.c (.i .i64 2)))]⟩,
      ⟨(some 17), none, .bso 3 1 [(.i .i64 0), (.i .i64 0), (.i .i64 0)] [(0, (.t 16))]⟩,
      ⟨(some 18), none, .build [.nil, .nil] [(0, 1, (.t 15)), (1, 1, (.t 17))]⟩,
      ⟨(some 19), none, .call section_Cut [(.t 18), (.c (.i .i64 3))]⟩,
      ⟨(some 11), none, .mv (.t 19)⟩,
      ⟨(some 20), none, .ext (.t 11) 0⟩,
      ⟨(some 21), none, .ext (.t 11) 1⟩,
      ⟨(some 3), none, .mv (.t 20)⟩,
      ⟨(some 4), none, .mv (.t 21)⟩])
    (.seq
     (.reg [
       ⟨(some 22), none, .mv (.t 2)⟩,
       ⟨(some 23), none, .mv (.t 22)⟩,
       ⟨(some 24), (some (23, true)), .ld (some 2) (.t 1)⟩,
       ⟨(some 25), (some (23, true)), .build [(.i .i64 0), (.i .i64 0)] [(0, 1, (.c (.i .i64 3)))]⟩,
       ⟨(some 26), (some (23, true)), .eqa [1, 1] false (.t 24) (.t 25)⟩,
       ⟨(some 27), none, .pick (.t 23) (.t 26) (.c (.b false))⟩,
       ⟨(some 28), none, .mv (.t 27)⟩,
       ⟨(some 29), (some (28, true)), .mv (.t 4)⟩,
       ⟨(some 30), (some (28, true)), .bin .eql (.t 29) (.c (.i .i64 0))⟩,
       ⟨(some 31), none, .pick (.t 28) (.t 30) (.c (.b false))⟩,
       ⟨(some 32), none, .mv (.t 31)⟩,
       ⟨(some 33), (some (32, true)), .mv (.t 3)⟩,
       ⟨(some 34), (some (32, true)), .len 0 (.t 33)⟩,
       ⟨(some 35), (some (32, true)), .bin .eql (.t 34) (.c (.i .i64 1))⟩,
       ⟨(some 36), none, .pick (.t 32) (.t 35) (.c (.b false))⟩,
       ⟨(some 37), none, .mv (.t 36)⟩,
       ⟨(some 38), (some (37, true)), .mv (.t 3)⟩,
       ⟨(some 39), (some (37, true)), .ia 4 (.t 38) (.c (.i .i64 0))⟩,
       ⟨(some 40), (some (37, true)), .ld (some 4) (.t 39)⟩,
       ⟨(some 41), (some (37, true)), .build [(.i .i64 0), (.i .i64 0)] [(0, 1, (.c (.i .i64 5)))]⟩,
       ⟨(some 42), (some (37, true)), .build [(.i .i64 0), (.i .i64 0), (.i .i64 0), (.i .i64 0)] [(2, 2, (.t 41))]⟩,
       ⟨(some 43), (some (37, true)), .eqa [1, 1, 1, 1] false (.t 40) (.t 42)⟩,
       ⟨(some 44), none, .pick (.t 37) (.t 43) (.c (.b false))⟩,
       ⟨(some 0), none, .mv (.t 44)⟩])
     .ret))))
def law15_awake.r : List Rr := [.tmp 0]
abbrev law15_awake.n : Nat := 45

end Go.Abs

