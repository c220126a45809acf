/- The code of functions of the program, the functions that they call left open. -/
import Derived.Test.YtaffnmhokdhgdaaGoBal
set_option linter.unusedVariables false
set_option linter.unusedSimpArgs false
namespace Go.Abs

def law15_balanced.c : C :=
 (.seq
  (.reg [
    ⟨(some 2), none, .mv (.c (.b false))⟩])
  (.seq
   (.seq
    (.reg [
      ⟨(some 3), none, .mv (.c (.i .i64 0))⟩])
    (.blk 0
     (.loop
      (.seq
       (.seq
        (.reg [
          ⟨(some 6), none, .mv (.t 3)⟩,
          ⟨(some 7), none, .mv (.t 0)⟩,
          ⟨(some 8), none, .len 0 (.t 7)⟩,
          ⟨(some 9), none, .bin .lss (.t 6) (.t 8)⟩])
        (.ite (.t 9)
         .skip
         (.exit 0)))
       (.seq
        (.blk 1
         (.seq
          (.reg [
            ⟨(some 4), none, .mv (.c (.i .i64 0))⟩])
          (.seq
           (.seq
            (.reg [
              ⟨(some 5), none, .mv (.c (.i .i64 0))⟩])
            (.blk 2
             (.loop
              (.seq
               (.seq
                (.reg [
                  ⟨(some 12), none, .mv (.t 5)⟩,
                  ⟨(some 13), none, .mv (.t 0)⟩,
                  ⟨(some 14), none, .len 0 (.t 13)⟩,
                  ⟨(some 15), none, .bin .lss (.t 12) (.t 14)⟩])
                (.ite (.t 15)
                 .skip
                 (.exit 2)))
               (.seq
                (.blk 3
                 (.seq
                  (.seq
                   (.drw [
                     ⟨(some 18), none, .mv (.t 0)⟩,
                     ⟨(some 19), none, .mv (.t 5)⟩,
                     ⟨(some 20), none, .ia 4 (.t 18) (.t 19)⟩,
                     ⟨(some 21), none, .fa 0 (.t 20)⟩,
                     ⟨(some 22), none, .ld (some 2) (.t 21)⟩,
                     ⟨(some 23), none, .mv (.t 0)⟩,
                     ⟨(some 24), none, .mv (.t 3)⟩,
                     ⟨(some 25), none, .ia 4 (.t 23) (.t 24)⟩,
                     ⟨(some 26), none, .fa 0 (.t 25)⟩,
                     ⟨(some 27), none, .ld (some 2) (.t 26)⟩,
                     ⟨(some 28), none, .eqa [1, 1] false (.t 22) (.t 27)⟩] [])
                   (.ite (.t 28)
                    (.reg [
                      ⟨(some 29), none, .mv (.t 4)⟩,
                      ⟨(some 30), none, .bin .add (.t 29) (.c (.i .i64 1))⟩,
                      ⟨(some 4), none, .mv (.t 30)⟩])
                    .skip))
                  (.seq
                   (.drw [
                     ⟨(some 31), none, .mv (.t 0)⟩,
                     ⟨(some 32), none, .mv (.t 5)⟩,
                     ⟨(some 33), none, .ia 4 (.t 31) (.t 32)⟩,
                     ⟨(some 34), none, .fa 2 (.t 33)⟩,
                     ⟨(some 35), none, .ld (some 2) (.t 34)⟩,
                     ⟨(some 36), none, .mv (.t 0)⟩,
                     ⟨(some 37), none, .mv (.t 3)⟩,
                     ⟨(some 38), none, .ia 4 (.t 36) (.t 37)⟩,
                     ⟨(some 39), none, .fa 0 (.t 38)⟩,
                     ⟨(some 40), none, .ld (some 2) (.t 39)⟩,
                     ⟨(some 41), none, .eqa [1, 1] false (.t 35) (.t 40)⟩] [])
                   (.ite (.t 41)
                    (.reg [
                      ⟨(some 42), none, .mv (.t 4)⟩,
                      ⟨(some 43), none, .bin .sub (.t 42) (.c (.i .i64 1))⟩,
                      ⟨(some 4), none, .mv (.t 43)⟩])
                    .skip))))
                (.reg [
                  ⟨(some 16), none, .mv (.t 5)⟩,
                  ⟨(some 17), none, .bin .add (.t 16) (.c (.i .i64 1))⟩,
                  ⟨(some 5), none, .mv (.t 17)⟩]))))))
           (.seq
            (.reg [
              ⟨(some 44), none, .mv (.t 4)⟩,
              ⟨(some 45), none, .bin .neq (.t 44) (.c (.i .i64 0))⟩])
            (.ite (.t 45)
             (.seq
              (.reg [
                ⟨(some 2), none, .mv (.c (.b false))⟩])
              .ret)
             .skip)))))
        (.reg [
          ⟨(some 10), none, .mv (.t 3)⟩,
          ⟨(some 11), none, .bin .add (.t 10) (.c (.i .i64 1))⟩,
          ⟨(some 3), none, .mv (.t 11)⟩]))))))
   (.seq
    (.reg [
      ⟨(some 2), none, .mv (.c (.b true))⟩])
    .ret)))
def law15_balanced.r : List Rr := [.tmp 2]
abbrev law15_balanced.n : Nat := 46
def law15_SectionBalanced.c (law15_Small law15_awake section_Cut topo_Closed law15_balanced : FuncId) : C :=
 (.seq
  (.reg [
    ⟨(some 2), none, .box (.t 0)⟩,
    ⟨(some 4), none, .mv (.c (.b false))⟩])
  (.seq
   (.seq
    (.reg [
      ⟨(some 7), none, .ld (some 2) (.t 2)⟩,
      ⟨(some 8), none, .call law15_Small [(.t 7)]⟩,
      ⟨(some 9), none, .un .not (.t 8)⟩])
    (.ite (.t 9)
     (.seq
      (.reg [
        ⟨(some 10), none, .call law15_awake []⟩,
        ⟨(some 4), none, .mv (.t 10)⟩])
      .ret)
     .skip))
   (.seq
    (.reg [
      ⟨(some 12), none, .ld (some 2) (.t 2)⟩,
      ⟨(some 13), none, .mv (.t 1)⟩,
      ⟨(some 14), none, .call section_Cut [(.t 12), (.t 13)]⟩,
      ⟨(some 11), none, .mv (.t 14)⟩,
      ⟨(some 15), none, .ext (.t 11) 0⟩,
      ⟨(some 16), none, .ext (.t 11) 1⟩,
      ⟨(some 5), none, .mv (.t 15)⟩,
      ⟨(some 6), none, .mv (.t 16)⟩])
    (.seq
     (.seq
      (.reg [
        ⟨(some 17), none, .mv (.t 6)⟩,
        ⟨(some 18), none, .bin .neq (.t 17) (.c (.i .i64 0))⟩,
        ⟨(some 19), none, .mv (.t 18)⟩,
        ⟨(some 20), (some (19, false)), .ld (some 2) (.t 2)⟩,
        ⟨(some 21), (some (19, false)), .call topo_Closed [(.t 20)]⟩,
        ⟨(some 22), (some (19, false)), .un .not (.t 21)⟩,
        ⟨(some 23), none, .pick (.t 19) (.c (.b true)) (.t 22)⟩])
      (.ite (.t 23)
       (.seq
        (.reg [
          ⟨(some 24), none, .call law15_awake []⟩,
          ⟨(some 4), none, .mv (.t 24)⟩])
        .ret)
       .skip))
     (.seq
      (.reg [
        ⟨(some 25), none, .mv (.t 5)⟩,
        ⟨(some 26), none, .call law15_balanced [(.t 25)]⟩,
        ⟨(some 27), none, .mv (.t 26)⟩,
        ⟨(some 28), (some (27, true)), .call law15_awake []⟩,
        ⟨(some 29), none, .pick (.t 27) (.t 28) (.c (.b false))⟩,
        ⟨(some 4), none, .mv (.t 29)⟩])
      .ret)))))
def law15_SectionBalanced.r : List Rr := [.tmp 4]
abbrev law15_SectionBalanced.n : Nat := 30

end Go.Abs

