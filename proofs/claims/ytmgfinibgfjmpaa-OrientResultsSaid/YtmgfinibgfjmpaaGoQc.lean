/- Part of the library on which the proof stands: an abstract machine, its values and its soundness against the model; or what functions of the program do to such values. -/
import Derived.Test.YtmgfinibgfjmpaaGoMap
import Derived.Test.YtmgfinibgfjmpaaGoClone
import Derived.Test.YtmgfinibgfjmpaaGoTk
import Derived.Test.YtmgfinibgfjmpaaGoOx
set_option linter.unusedVariables false
set_option linter.unusedSimpArgs false
namespace Go.Abs

def law11_OrientResults.c (law11_Small law11_awake orient_Orient ref11_Orient ref07_Same : FuncId) : C :=
 (.seq
  (.reg [
    ⟨(some 1), none, .box (.t 0)⟩,
    ⟨(some 2), none, .mv (.c (.b false))⟩])
  (.seq
   (.seq
    (.reg [
      ⟨(some 9), none, .ld (some 2) (.t 1)⟩,
      ⟨(some 10), none, .call law11_Small [(.t 9)]⟩,
      ⟨(some 11), none, .un .not (.t 10)⟩])
    (.ite (.t 11)
     (.seq
      (.reg [
        ⟨(some 12), none, .call law11_awake []⟩,
        ⟨(some 2), none, .mv (.t 12)⟩])
      .ret)
     .skip))
   (.seq
    (.reg [
      ⟨(some 14), none, .ld (some 2) (.t 1)⟩,
      ⟨(some 15), none, .call orient_Orient [(.t 14)]⟩,
      ⟨(some 13), none, .mv (.t 15)⟩,
      ⟨(some 16), none, .ext (.t 13) 0⟩,
      ⟨(some 17), none, .ext (.t 13) 1⟩,
      ⟨(some 18), none, .ext (.t 13) 2⟩,
      ⟨(some 3), none, .alloc [.nil, .nil]⟩,
      ⟨none, none, .st 2 (.t 3) (.t 16)⟩,
      ⟨(some 4), none, .mv (.t 17)⟩,
      ⟨(some 5), none, .mv (.t 18)⟩])
    (.seq
     (.reg [
       ⟨(some 20), none, .ld (some 2) (.t 1)⟩,
       ⟨(some 21), none, .call ref11_Orient [(.t 20)]⟩,
       ⟨(some 19), none, .mv (.t 21)⟩,
       ⟨(some 22), none, .ext (.t 19) 0⟩,
       ⟨(some 23), none, .ext (.t 19) 1⟩,
       ⟨(some 24), none, .ext (.t 19) 2⟩,
       ⟨(some 6), none, .alloc [.nil, .nil]⟩,
       ⟨none, none, .st 2 (.t 6) (.t 22)⟩,
       ⟨(some 7), none, .mv (.t 23)⟩,
       ⟨(some 8), none, .mv (.t 24)⟩])
     (.seq
      (.reg [
        ⟨(some 25), none, .ld (some 2) (.t 3)⟩,
        ⟨(some 26), none, .ld (some 2) (.t 6)⟩,
        ⟨(some 27), none, .call ref07_Same [(.t 25), (.t 26)]⟩,
        ⟨(some 28), none, .mv (.t 27)⟩,
        ⟨(some 29), (some (28, true)), .mv (.t 4)⟩,
        ⟨(some 30), (some (28, true)), .mv (.t 7)⟩,
        ⟨(some 31), (some (28, true)), .bin .eql (.t 29) (.t 30)⟩,
        ⟨(some 32), none, .pick (.t 28) (.t 31) (.c (.b false))⟩,
        ⟨(some 33), none, .mv (.t 32)⟩,
        ⟨(some 34), (some (33, true)), .mv (.t 5)⟩,
        ⟨(some 35), (some (33, true)), .mv (.t 8)⟩,
        ⟨(some 36), (some (33, true)), .bin .eql (.t 34) (.t 35)⟩,
        ⟨(some 37), none, .pick (.t 33) (.t 36) (.c (.b false))⟩,
        ⟨(some 38), none, .mv (.t 37)⟩,
        ⟨(some 39), (some (38, true)), .call law11_awake []⟩,
        ⟨(some 40), none, .pick (.t 38) (.t 39) (.c (.b false))⟩,
        ⟨(some 2), none, .mv (.t 40)⟩])
      .ret)))))
def law11_OrientResults.r : List Rr := [.tmp 2]
abbrev law11_OrientResults.n : Nat := 41
def ref11_Orient.c (ref07_Check ref10_Shells ref11_spread ref11_coherent : FuncId) : C :=
 (.seq
  (.reg [
    ⟨(some 1), none, .box (.t 0)⟩,
    ⟨(some 2), none, .alloc [.nil, .nil]⟩,
    ⟨(some 3), none, .mv (.c (.i .i64 0))⟩,
    ⟨(some 4), none, .mv (.c (.i .i64 0))⟩])
  (.seq
   (.seq
    (.reg [
      ⟨(some 11), none, .ld (some 2) (.t 1)⟩,
      ⟨(some 12), none, .call ref07_Check [(.t 11)]⟩,
      ⟨(some 5), none, .mv (.t 12)⟩])
    (.seq
     (.reg [
       ⟨(some 13), none, .mv (.t 5)⟩,
       ⟨(some 14), none, .bin .neq (.t 13) (.c (.i .i64 0))⟩])
     (.ite (.t 14)
      (.seq
       (.reg [
         ⟨(some 15), none, .build [.nil, .nil] []⟩,
         ⟨(some 16), none, .mv (.t 5)⟩,
         ⟨none, none, .st 2 (.t 2) (.t 15)⟩,
         ⟨(some 3), none, .mv (.c (.i .i64 0))⟩,
         ⟨(some 4), none, .mv (.t 16)⟩])
       .ret)
      .skip)))
   (.seq
    (.reg [
      ⟨(some 17), none, .ld (some 2) (.t 1)⟩,
      ⟨(some 18), none, .call ref10_Shells [(.t 17)]⟩,
      ⟨(some 6), none, .mv (.t 18)⟩])
    (.seq
     (.reg [
       ⟨(some 19), none, .bso 3 0 [(.i .i64 0), (.i .i64 0), (.i .i64 0)] []⟩,
       ⟨(some 20), none, .fa 1 (.t 1)⟩,
       ⟨(some 21), none, .ld none (.t 20)⟩,
       ⟨(some 22), none, .app 3 24 (.t 19) (.t 21)⟩,
       ⟨(some 7), none, .mv (.t 22)⟩])
     (.seq
      (.seq
       (.reg [
         ⟨(some 8), none, .mv (.c (.i .i64 0))⟩])
       (.blk 0
        (.loop
         (.seq
          (.seq
           (.reg [
             ⟨(some 23), none, .mv (.t 8)⟩,
             ⟨(some 24), none, .mv (.t 6)⟩,
             ⟨(some 25), none, .len 0 (.t 24)⟩,
             ⟨(some 26), none, .bin .lss (.t 23) (.t 25)⟩])
           (.ite (.t 26)
            .skip
            (.exit 0)))
          (.seq
           (.blk 1
            (.reg [
              ⟨(some 29), none, .mv (.t 7)⟩,
              ⟨(some 30), none, .mv (.t 6)⟩,
              ⟨(some 31), none, .mv (.t 8)⟩,
              ⟨(some 32), none, .ia 1 (.t 30) (.t 31)⟩,
              ⟨(some 33), none, .ld none (.t 32)⟩,
              ⟨(some 34), none, .call ref11_spread [(.t 29), (.t 33)]⟩,
              ⟨(some 7), none, .mv (.t 34)⟩]))
           (.reg [
             ⟨(some 27), none, .mv (.t 8)⟩,
             ⟨(some 28), none, .bin .add (.t 27) (.c (.i .i64 1))⟩,
             ⟨(some 8), none, .mv (.t 28)⟩]))))))
      (.seq
       (.seq
        (.reg [
          ⟨(some 35), none, .mv (.t 7)⟩,
          ⟨(some 36), none, .call ref11_coherent [(.t 35)]⟩,
          ⟨(some 37), none, .un .not (.t 36)⟩])
        (.ite (.t 37)
         (.seq
          (.reg [
            ⟨(some 38), none, .build [.nil, .nil] []⟩,
            ⟨none, none, .st 2 (.t 2) (.t 38)⟩,
            ⟨(some 3), none, .mv (.c (.i .i64 0))⟩,
            ⟨(some 4), none, .mv (.c (.i .i64 13))⟩])
          .ret)
         .skip))
       (.seq
        (.reg [
          ⟨(some 9), none, .mv (.c (.i .i64 0))⟩])
        (.seq
         (.seq
          (.reg [
            ⟨(some 10), none, .mv (.c (.i .i64 0))⟩])
          (.blk 2
           (.loop
            (.seq
             (.seq
              (.reg [
                ⟨(some 39), none, .mv (.t 10)⟩,
                ⟨(some 40), none, .mv (.t 7)⟩,
                ⟨(some 41), none, .len 0 (.t 40)⟩,
                ⟨(some 42), none, .bin .lss (.t 39) (.t 41)⟩])
              (.ite (.t 42)
               .skip
               (.exit 2)))
             (.seq
              (.blk 3
               (.seq
                (.drw [
                  ⟨(some 45), none, .mv (.t 7)⟩,
                  ⟨(some 46), none, .mv (.t 10)⟩,
                  ⟨(some 47), none, .ia 3 (.t 45) (.t 46)⟩,
                  ⟨(some 48), none, .ld (some 3) (.t 47)⟩,
                  ⟨(some 49), none, .fa 1 (.t 1)⟩,
                  ⟨(some 50), none, .ld none (.t 49)⟩,
                  ⟨(some 51), none, .mv (.t 10)⟩,
                  ⟨(some 52), none, .ia 3 (.t 50) (.t 51)⟩,
                  ⟨(some 53), none, .ld (some 3) (.t 52)⟩,
                  ⟨(some 54), none, .eqa [1, 1, 1] true (.t 48) (.t 53)⟩] [])
                (.ite (.t 54)
                 (.reg [
                   ⟨(some 55), none, .mv (.t 9)⟩,
                   ⟨(some 56), none, .bin .add (.t 55) (.c (.i .i64 1))⟩,
                   ⟨(some 9), none, .mv (.t 56)⟩])
                 .skip)))
              (.reg [
                ⟨(some 43), none, .mv (.t 10)⟩,
                ⟨(some 44), none, .bin .add (.t 43) (.c (.i .i64 1))⟩,
                ⟨(some 10), none, .mv (.t 44)⟩]))))))
         (.seq
          (.reg [
            ⟨(some 57), none, .bso 3 0 [(.i .i64 0), (.i .i64 0), (.i .i64 0)] []⟩,
            ⟨(some 58), none, .fa 0 (.t 1)⟩,
            ⟨(some 59), none, .ld none (.t 58)⟩,
            ⟨(some 60), none, .app 3 24 (.t 57) (.t 59)⟩,
            ⟨(some 61), none, .mv (.t 7)⟩,
            ⟨(some 62), none, .build [.nil, .nil] [(0, 1, (.t 60)), (1, 1, (.t 61))]⟩,
            ⟨(some 63), none, .mv (.t 9)⟩,
            ⟨none, none, .st 2 (.t 2) (.t 62)⟩,
            ⟨(some 3), none, .mv (.t 63)⟩,
            ⟨(some 4), none, .mv (.c (.i .i64 0))⟩])
          .ret)))))))))
def ref11_Orient.r : List Rr := [.cell 2 (some 2), .tmp 3, .tmp 4]
abbrev ref11_Orient.n : Nat := 64
def ref11_common.c (ref11_uses : FuncId) : C :=
 (.seq
  (.reg [
    ⟨(some 2), none, .box (.t 0)⟩,
    ⟨(some 3), none, .box (.t 1)⟩,
    ⟨(some 4), none, .mv (.c (.b false))⟩,
    ⟨(some 5), none, .mv (.c (.b false))⟩])
  (.seq
   (.reg [
     ⟨(some 6), none, .mv (.c (.b false))⟩,
     ⟨(some 7), none, .mv (.c (.b false))⟩])
   (.seq
    (.drw [
      ⟨(some 12), none, .ld (some 3) (.t 2)⟩,
      ⟨(some 13), none, .call ref11_uses [(.t 12)]⟩,
      ⟨(some 14), none, .ld (some 3) (.t 3)⟩,
      ⟨(some 15), none, .call ref11_uses [(.t 14)]⟩,
      ⟨(some 8), none, .mv (.t 13)⟩,
      ⟨(some 9), none, .mv (.t 15)⟩] [[], [], [1], [], [], []])
    (.seq
     (.seq
      (.reg [
        ⟨(some 10), none, .mv (.c (.i .i64 0))⟩])
      (.blk 0
       (.loop
        (.seq
         (.seq
          (.reg [
            ⟨(some 16), none, .mv (.t 10)⟩,
            ⟨(some 17), none, .mv (.t 8)⟩,
            ⟨(some 18), none, .len 0 (.t 17)⟩,
            ⟨(some 19), none, .bin .lss (.t 16) (.t 18)⟩])
          (.ite (.t 19)
           .skip
           (.exit 0)))
         (.seq
          (.blk 1
           (.seq
            (.reg [
              ⟨(some 11), none, .mv (.c (.i .i64 0))⟩])
            (.blk 2
             (.loop
              (.seq
               (.seq
                (.reg [
                  ⟨(some 22), none, .mv (.t 11)⟩,
                  ⟨(some 23), none, .mv (.t 9)⟩,
                  ⟨(some 24), none, .len 0 (.t 23)⟩,
                  ⟨(some 25), none, .bin .lss (.t 22) (.t 24)⟩])
                (.ite (.t 25)
                 .skip
                 (.exit 2)))
               (.seq
                (.blk 3
                 (.seq
                  (.drw [
                    ⟨(some 28), none, .mv (.t 6)⟩,
                    ⟨(some 29), none, .mv (.t 28)⟩,
                    ⟨(some 30), (some (29, false)), .mv (.t 8)⟩,
                    ⟨(some 31), (some (29, false)), .mv (.t 10)⟩,
                    ⟨(some 32), (some (29, false)), .ia 2 (.t 30) (.t 31)⟩,
                    ⟨(some 33), (some (29, false)), .ld (some 2) (.t 32)⟩,
                    ⟨(some 34), (some (29, false)), .mv (.t 9)⟩,
                    ⟨(some 35), (some (29, false)), .mv (.t 11)⟩,
                    ⟨(some 36), (some (29, false)), .ia 2 (.t 34) (.t 35)⟩,
                    ⟨(some 37), (some (29, false)), .ld (some 2) (.t 36)⟩,
                    ⟨(some 38), (some (29, false)), .eqa [1, 1] false (.t 33) (.t 37)⟩,
                    ⟨(some 39), none, .pick (.t 29) (.c (.b true)) (.t 38)⟩,
                    ⟨(some 6), none, .mv (.t 39)⟩] [])
                  (.drw [
                    ⟨(some 40), none, .mv (.t 7)⟩,
                    ⟨(some 41), none, .mv (.t 40)⟩,
                    ⟨(some 42), (some (41, false)), .mv (.t 8)⟩,
                    ⟨(some 43), (some (41, false)), .mv (.t 10)⟩,
                    ⟨(some 44), (some (41, false)), .ia 2 (.t 42) (.t 43)⟩,
                    ⟨(some 45), (some (41, false)), .fa 0 (.t 44)⟩,
                    ⟨(some 46), (some (41, false)), .ld none (.t 45)⟩,
                    ⟨(some 47), (some (41, false)), .mv (.t 9)⟩,
                    ⟨(some 48), (some (41, false)), .mv (.t 11)⟩,
                    ⟨(some 49), (some (41, false)), .ia 2 (.t 47) (.t 48)⟩,
                    ⟨(some 50), (some (41, false)), .fa 1 (.t 49)⟩,
                    ⟨(some 51), (some (41, false)), .ld none (.t 50)⟩,
                    ⟨(some 52), (some (41, false)), .bin .eql (.t 46) (.t 51)⟩,
                    ⟨(some 53), (some (41, false)), .mv (.t 52)⟩,
                    ⟨(some 54), (some (53, true)), .mv (.t 8)⟩,
                    ⟨(some 55), (some (53, true)), .mv (.t 10)⟩,
                    ⟨(some 56), (some (53, true)), .ia 2 (.t 54) (.t 55)⟩,
                    ⟨(some 57), (some (53, true)), .fa 1 (.t 56)⟩,
                    ⟨(some 58), (some (53, true)), .ld none (.t 57)⟩,
                    ⟨(some 59), (some (53, true)), .mv (.t 9)⟩,
                    ⟨(some 60), (some (53, true)), .mv (.t 11)⟩,
                    ⟨(some 61), (some (53, true)), .ia 2 (.t 59) (.t 60)⟩,
                    ⟨(some 62), (some (53, true)), .fa 0 (.t 61)⟩,
                    ⟨(some 63), (some (53, true)), .ld none (.t 62)⟩,
                    ⟨(some 64), (some (53, true)), .bin .eql (.t 58) (.t 63)⟩,
                    ⟨(some 65), (some (41, false)), .pick (.t 53) (.t 64) (.c (.b false))⟩,
                    ⟨(some 66), none, .pick (.t 41) (.c (.b true)) (.t 65)⟩,
                    ⟨(some 7), none, .mv (.t 66)⟩] [])))
                (.reg [
                  ⟨(some 26), none, .mv (.t 11)⟩,
                  ⟨(some 27), none, .bin .add (.t 26) (.c (.i .i64 1))⟩,
                  ⟨(some 11), none, .mv (.t 27)⟩])))))))
          (.reg [
            ⟨(some 20), none, .mv (.t 10)⟩,
            ⟨(some 21), none, .bin .add (.t 20) (.c (.i .i64 1))⟩,
            ⟨(some 10), none, .mv (.t 21)⟩]))))))
     (.seq
      (.reg [
        ⟨(some 67), none, .mv (.t 6)⟩,
        ⟨(some 68), none, .mv (.t 7)⟩,
        ⟨(some 4), none, .mv (.t 67)⟩,
        ⟨(some 5), none, .mv (.t 68)⟩])
      .ret)))))
def ref11_common.r : List Rr := [.tmp 4, .tmp 5]
abbrev ref11_common.n : Nat := 69
def ref11_spread.c (ref11_common ref11_Reversed : FuncId) : C :=
 (.seq
  (.reg [
    ⟨(some 4), none, .mv (.c .nil)⟩])
  (.seq
   (.reg [
     ⟨(some 12), none, .bso 3 0 [(.i .i64 0), (.i .i64 0), (.i .i64 0)] []⟩,
     ⟨(some 13), none, .mv (.t 0)⟩,
     ⟨(some 14), none, .app 3 24 (.t 12) (.t 13)⟩,
     ⟨(some 5), none, .mv (.t 14)⟩])
   (.seq
    (.reg [
      ⟨(some 15), none, .mv (.t 1)⟩,
      ⟨(some 16), none, .len 0 (.t 15)⟩,
      ⟨(some 17), none, .mks 1 1 [(.b false)] (.t 16)⟩,
      ⟨(some 6), none, .mv (.t 17)⟩])
    (.seq
     (.reg [
       ⟨(some 18), none, .mv (.t 6)⟩,
       ⟨(some 19), none, .ia 1 (.t 18) (.c (.i .i64 0))⟩,
       ⟨none, none, .st 1 (.t 19) (.c (.b true))⟩])
     (.seq
      (.seq
       (.reg [
         ⟨(some 7), none, .mv (.c (.i .i64 0))⟩])
       (.blk 0
        (.loop
         (.seq
          (.seq
           (.reg [
             ⟨(some 20), none, .mv (.t 7)⟩,
             ⟨(some 21), none, .mv (.t 1)⟩,
             ⟨(some 22), none, .len 0 (.t 21)⟩,
             ⟨(some 23), none, .bin .lss (.t 20) (.t 22)⟩])
           (.ite (.t 23)
            .skip
            (.exit 0)))
          (.seq
           (.blk 1
            (.seq
             (.reg [
               ⟨(some 8), none, .mv (.c (.i .i64 0))⟩])
             (.blk 2
              (.loop
               (.seq
                (.seq
                 (.reg [
                   ⟨(some 26), none, .mv (.t 8)⟩,
                   ⟨(some 27), none, .mv (.t 1)⟩,
                   ⟨(some 28), none, .len 0 (.t 27)⟩,
                   ⟨(some 29), none, .bin .lss (.t 26) (.t 28)⟩])
                 (.ite (.t 29)
                  .skip
                  (.exit 2)))
                (.seq
                 (.blk 3
                  (.seq
                   (.reg [
                     ⟨(some 9), none, .mv (.c (.i .i64 0))⟩])
                   (.blk 4
                    (.loop
                     (.seq
                      (.seq
                       (.reg [
                         ⟨(some 32), none, .mv (.t 9)⟩,
                         ⟨(some 33), none, .mv (.t 1)⟩,
                         ⟨(some 34), none, .len 0 (.t 33)⟩,
                         ⟨(some 35), none, .bin .lss (.t 32) (.t 34)⟩])
                       (.ite (.t 35)
                        .skip
                        (.exit 4)))
                      (.seq
                       (.blk 5
                        (.seq
                         (.seq
                          (.reg [
                            ⟨(some 38), none, .mv (.t 6)⟩,
                            ⟨(some 39), none, .mv (.t 8)⟩,
                            ⟨(some 40), none, .ia 1 (.t 38) (.t 39)⟩,
                            ⟨(some 41), none, .ld none (.t 40)⟩,
                            ⟨(some 42), none, .un .not (.t 41)⟩,
                            ⟨(some 43), none, .mv (.t 42)⟩,
                            ⟨(some 44), (some (43, false)), .mv (.t 6)⟩,
                            ⟨(some 45), (some (43, false)), .mv (.t 9)⟩,
                            ⟨(some 46), (some (43, false)), .ia 1 (.t 44) (.t 45)⟩,
                            ⟨(some 47), (some (43, false)), .ld none (.t 46)⟩,
                            ⟨(some 48), none, .pick (.t 43) (.c (.b true)) (.t 47)⟩])
                          (.ite (.t 48)
                           (.exit 5)
                           .skip))
                         (.seq
                          (.drw [
                            ⟨(some 50), none, .mv (.t 5)⟩,
                            ⟨(some 51), none, .mv (.t 1)⟩,
                            ⟨(some 52), none, .mv (.t 8)⟩,
                            ⟨(some 53), none, .ia 1 (.t 51) (.t 52)⟩,
                            ⟨(some 54), none, .ld none (.t 53)⟩,
                            ⟨(some 55), none, .ia 3 (.t 50) (.t 54)⟩,
                            ⟨(some 56), none, .ld (some 3) (.t 55)⟩,
                            ⟨(some 57), none, .mv (.t 5)⟩,
                            ⟨(some 58), none, .mv (.t 1)⟩,
                            ⟨(some 59), none, .mv (.t 9)⟩,
                            ⟨(some 60), none, .ia 1 (.t 58) (.t 59)⟩,
                            ⟨(some 61), none, .ld none (.t 60)⟩,
                            ⟨(some 62), none, .ia 3 (.t 57) (.t 61)⟩,
                            ⟨(some 63), none, .ld (some 3) (.t 62)⟩,
                            ⟨(some 64), none, .call ref11_common [(.t 56), (.t 63)]⟩,
                            ⟨(some 49), none, .mv (.t 64)⟩,
                            ⟨(some 65), none, .ext (.t 49) 0⟩,
                            ⟨(some 66), none, .ext (.t 49) 1⟩,
                            ⟨(some 10), none, .mv (.t 65)⟩,
                            ⟨(some 11), none, .mv (.t 66)⟩] [])
                          (.seq
                           (.seq
                            (.reg [
                              ⟨(some 67), none, .mv (.t 10)⟩,
                              ⟨(some 68), none, .mv (.t 67)⟩,
                              ⟨(some 69), (some (68, true)), .mv (.t 11)⟩,
                              ⟨(some 70), (some (68, true)), .un .not (.t 69)⟩,
                              ⟨(some 71), none, .pick (.t 68) (.t 70) (.c (.b false))⟩])
                            (.ite (.t 71)
                             (.drw [
                               ⟨(some 72), none, .mv (.t 5)⟩,
                               ⟨(some 73), none, .mv (.t 1)⟩,
                               ⟨(some 74), none, .mv (.t 9)⟩,
                               ⟨(some 75), none, .ia 1 (.t 73) (.t 74)⟩,
                               ⟨(some 76), none, .ld none (.t 75)⟩,
                               ⟨(some 77), none, .mv (.t 5)⟩,
                               ⟨(some 78), none, .mv (.t 1)⟩,
                               ⟨(some 79), none, .mv (.t 9)⟩,
                               ⟨(some 80), none, .ia 1 (.t 78) (.t 79)⟩,
                               ⟨(some 81), none, .ld none (.t 80)⟩,
                               ⟨(some 82), none, .ia 3 (.t 77) (.t 81)⟩,
                               ⟨(some 83), none, .ld (some 3) (.t 82)⟩,
                               ⟨(some 84), none, .call ref11_Reversed [(.t 83)]⟩,
                               ⟨(some 85), none, .ia 3 (.t 72) (.t 76)⟩,
                               ⟨none, none, .st 3 (.t 85) (.t 84)⟩] [[], [], [], [], [], [], [], [], [], [], [], [], [3, 4], [], []])
                             .skip))
                           (.reg [
                             ⟨(some 86), none, .mv (.t 6)⟩,
                             ⟨(some 87), none, .mv (.t 9)⟩,
                             ⟨(some 88), none, .mv (.t 10)⟩,
                             ⟨(some 89), none, .mv (.t 88)⟩,
                             ⟨(some 90), (some (89, false)), .mv (.t 11)⟩,
                             ⟨(some 91), none, .pick (.t 89) (.c (.b true)) (.t 90)⟩,
                             ⟨(some 92), none, .ia 1 (.t 86) (.t 87)⟩,
                             ⟨none, none, .st 1 (.t 92) (.t 91)⟩])))))
                       (.reg [
                         ⟨(some 36), none, .mv (.t 9)⟩,
                         ⟨(some 37), none, .bin .add (.t 36) (.c (.i .i64 1))⟩,
                         ⟨(some 9), none, .mv (.t 37)⟩])))))))
                 (.reg [
                   ⟨(some 30), none, .mv (.t 8)⟩,
                   ⟨(some 31), none, .bin .add (.t 30) (.c (.i .i64 1))⟩,
                   ⟨(some 8), none, .mv (.t 31)⟩])))))))
           (.reg [
             ⟨(some 24), none, .mv (.t 7)⟩,
             ⟨(some 25), none, .bin .add (.t 24) (.c (.i .i64 1))⟩,
             ⟨(some 7), none, .mv (.t 25)⟩]))))))
      (.seq
       (.reg [
         ⟨(some 93), none, .mv (.t 5)⟩,
         ⟨(some 4), none, .mv (.t 93)⟩])
       .ret))))))
def ref11_spread.r : List Rr := [.tmp 4]
abbrev ref11_spread.n : Nat := 94
def ref11_Reversed.c : C :=
 (.seq
  (.reg [
    ⟨(some 1), none, .box (.t 0)⟩,
    ⟨(some 2), none, .alloc [(.i .i64 0), (.i .i64 0), (.i .i64 0)]⟩])
  (.seq
   (.reg [
     ⟨(some 3), none, .fa 0 (.t 1)⟩,
     ⟨(some 4), none, .ld none (.t 3)⟩,
     ⟨(some 5), none, .fa 2 (.t 1)⟩,
     ⟨(some 6), none, .ld none (.t 5)⟩,
     ⟨(some 7), none, .fa 1 (.t 1)⟩,
     ⟨(some 8), none, .ld none (.t 7)⟩,
     ⟨(some 9), none, .build [(.i .i64 0), (.i .i64 0), (.i .i64 0)] [(0, 1, (.t 4)), (1, 1, (.t 6)), (2, 1, (.t 8))]⟩,
     ⟨none, none, .st 3 (.t 2) (.t 9)⟩])
   .ret))
def ref11_Reversed.r : List Rr := [.cell 2 (some 3)]
abbrev ref11_Reversed.n : Nat := 10
end Go.Abs
set_option linter.unusedVariables false
set_option linter.unusedSimpArgs false
namespace Go.Abs

def RevTC (P : Program) (f : FuncId) : Prop := ∀ t : T3, CallIs P f [t.enc] t.rev.enc

section
variable {P : Program} (hm : P.follows .mixedOrders = true)
include hm

theorem orient_reversed_ok {f : FuncId} (hf : FnOk P f orient_reversed.c orient_reversed.r orient_reversed.n) : RevTC P f := by
  intro t
  refine PureC.is (pure_of hm hf (Nat.le_of_ble_eq_true rfl) ?_) rfl
  unfold orient_reversed.c
  simp [go_sem, T3.enc, T3.cs, T3.rev, orient_reversed.r]
theorem ref11_Reversed_ok {f : FuncId} (hf : FnOk P f ref11_Reversed.c ref11_Reversed.r ref11_Reversed.n) : RevTC P f := orient_reversed_ok hm hf

end
end Go.Abs
set_option linter.unusedVariables false
set_option linter.unusedSimpArgs false
namespace Go.Abs

theorem nodup_take_succ {α : Type} {l : List α} {k : Nat} {x : α} (hx : l[k]? = some x) (h : (l.take k).Nodup) (hm : x ∉ l.take k) : (l.take (k + 1)).Nodup := by
  rw [List.take_add_one, hx, List.nodup_append]
  exact ⟨h, by simp, fun a ha b hb => by simp at hb; subst hb; rintro rfl; exact hm ha⟩

theorem p2_ext {x y : P2} (h1 : x.x = y.x) (h2 : x.y = y.y) : x = y := by cases x; cases y; simp_all

section
variable {P : Program} (hm : P.follows .mixedOrders = true)
include hm

set_option maxHeartbeats 4000000 in
theorem ref11_uses_ok {f : FuncId} (hf : FnOk P f ref11_uses.c ref11_uses.r ref11_uses.n) : EdgesC P f := by
  intro t
  refine PureC.is (pure_of hm hf (Nat.le_of_ble_eq_true rfl) ?_) rfl
  unfold ref11_uses.c
  simp [go_sem, T3.enc, T3.cs]
  have w1 : IntKind.i64.wrap 1 = 1 := rfl
  have w2 : IntKind.i64.wrap 2 = 2 := rfl
  have w3 : IntKind.i64.wrap 3 = 3 := rfl
  refine AS_loopG [.t 4 2] (α := Nat) (fun k => k ≤ 3)
    (fun k => ⟨[(3, .own 1 1 0 3), (4, .own 2 ((edgesK t k).length + 1) 0 (edgesK t k).length), (5, .i .i64 k)],
      [.dead, .arr 1 2 [[.i .i64 t.a, .i .i64 t.b], [.i .i64 t.b, .i .i64 t.c], [.i .i64 t.c, .i .i64 t.a]], .arr ((edgesK t k).length + 1) 2 ((edgesK t k).map P2.cs)]⟩)
    (fun k => 3 - k) 0 (by omega) ?_ ?_
  · simp [go_sem, edgesK_0, V.cl, V.cl1, V.cl0]
  · intro k hk
    have hl := edgesK_le t k
    by_cases h3 : k = 3
    · subst h3
      simp [go_sem, ref11_uses.r, psV, edgesOf, p2_isD]
    · have : k = 0 ∨ k = 1 ∨ k = 2 := by omega
      rcases this with rfl | rfl | rfl
      · have hs := edgesK_1 t
        generalize hE : edgesK t 0 = E0 at hs hl
        by_cases h : t.a = t.b
        · rw [if_pos h] at hs
          simp [go_sem, h, w1, w2, w3]
          exact ⟨1, by omega, by omega, by simp [hs], by simp [hs], by simp [p2_cl]⟩
        · rw [if_neg h] at hs
          simp [go_sem, h, w1, w2, w3]
          exact ⟨by omega, 1, by omega, by omega, by simp [hs], by simp [hs, pcs, or_imp, forall_and, V.cl, V.cl1, V.cl0]⟩
      · have hs := edgesK_2 t
        generalize hE : edgesK t 1 = E0 at hs hl
        by_cases h : t.b = t.c
        · rw [if_pos h] at hs
          simp [go_sem, h, w1, w2, w3]
          exact ⟨2, by omega, by omega, by simp [hs], by simp [hs], by simp [p2_cl]⟩
        · rw [if_neg h] at hs
          simp [go_sem, h, w1, w2, w3]
          exact ⟨by omega, 2, by omega, by omega, by simp [hs], by simp [hs, pcs, or_imp, forall_and, V.cl, V.cl1, V.cl0]⟩
      · have hs := edgesK_3 t
        generalize hE : edgesK t 2 = E0 at hs hl
        by_cases h : t.c = t.a
        · rw [if_pos h] at hs
          simp [go_sem, h, w1, w2, w3]
          exact ⟨3, by omega, by omega, by simp [hs], by simp [hs], by simp [p2_cl]⟩
        · rw [if_neg h] at hs
          simp [go_sem, h, w1, w2, w3]
          exact ⟨by omega, 3, by omega, by omega, by simp [hs], by simp [hs, pcs, or_imp, forall_and, V.cl, V.cl1, V.cl0]⟩
set_option maxHeartbeats 4000000 in
theorem ref11_coherent_ok {f fu : FuncId} (hf : FnOk P f (ref11_coherent.c fu) ref11_coherent.r ref11_coherent.n) (hu : EdgesC P fu) : CohC P f := by
  intro l hl
  refine PureC.is (pure_of hm hf (Nat.le_of_ble_eq_true rfl) ?_) rfl
  unfold ref11_coherent.c
  simp [go_sem, tsV]
  refine AS_loopG [.t 3 2] (α := Nat) (fun k => k ≤ l.length)
    (fun k => ⟨[(0, tsV l), (3, .own 0 (k + 1) 0 (alluses (l.take k)).length), (4, .i .i64 k)], [.arr (k + 1) 2 ((alluses (l.take k)).map P2.cs)]⟩)
    (fun k => l.length - k) 0 (by omega) ?_ ?_
  · simp [go_sem, tsV, alluses]
  · intro k hk
    have hal : (alluses (l.take k)).length ≤ 3 * k := alluses_len l k
    by_cases hkl : k = l.length
    · subst hkl
      rw [List.take_length] at hal ⊢
      simp [go_sem, tsV]
      generalize hE : alluses l = E at hal ⊢
      refine AS_loop (α := Nat) (fun k => k ≤ E.length ∧ (E.take k).Nodup)
        (fun k => ⟨[(3, .own 0 (l.length + 1) 0 E.length), (5, .i .i64 k)], [.arr (l.length + 1) 2 (E.map P2.cs)]⟩)
        (fun k => E.length - k) 0 ⟨by omega, by simp⟩ ?_ ?_
      · simp [go_sem, p2_cl]
      · rintro i ⟨hi, hnd⟩
        by_cases hil : i = E.length
        · subst hil
          rw [List.take_length] at hnd
          simp [go_sem, ref11_coherent.r, cohB, hE, hnd]
        · have hilt : i < E.length := by omega
          have hp : E[i]? = some E[i] := List.getElem?_eq_getElem hilt
          generalize E[i] = x at hp
          obtain ⟨_, hp'⟩ := List.getElem?_eq_some_iff.1 hp
          simp [go_sem, hilt]
          refine AS_loop (α := Nat) (fun k => k ≤ i ∧ x ∉ E.take k)
            (fun k => ⟨[(3, .own 0 (l.length + 1) 0 E.length), (5, .i .i64 i), (6, .i .i64 k)], [.arr (l.length + 1) 2 (E.map P2.cs)]⟩)
            (fun k => i - k) 0 ⟨by omega, by simp⟩ ?_ ?_
          · simp [go_sem, p2_cl]
          · rintro k ⟨hk, hnm⟩
            by_cases hki : k = i
            · subst hki
              simp (disch := omega) [go_sem, wrap64_small]
              exact ⟨k + 1, ⟨by omega, nodup_take_succ hp hnd hnm⟩, by omega, by omega, by simp [p2_cl]⟩
            · have hklt : k < E.length := by omega
              have hq : E[k]? = some E[k] := List.getElem?_eq_getElem hklt
              generalize E[k] = y at hq
              obtain ⟨_, hq'⟩ := List.getElem?_eq_some_iff.1 hq
              have hki' : k < i := by omega
              simp [go_sem, hki', hilt, hklt, hp', hq', pcs]
              by_cases hxy : x = y
              · refine ⟨fun _ _ => ?_, fun h => absurd (by rw [hxy]) (h (by rw [hxy]))⟩
                have hnn : ¬ (alluses l).Nodup := by
                  rw [hE]
                  intro hall
                  exact List.pairwise_iff_getElem.1 hall k i hklt hilt hki' (by rw [hp', hq', hxy])
                simp [go_sem, ref11_coherent.r, cohB, hnn]
              · refine ⟨fun h1 h2 => absurd (p2_ext h1 h2) hxy, fun _ => ⟨k + 1, ⟨by omega, ?_⟩, by omega, wrap64_small (by omega) (by omega)⟩⟩
                rw [List.take_add_one, hq]
                simp [hnm, hxy]
    · have hlt : k < l.length := by omega
      have hp : l[k]? = some l[k] := List.getElem?_eq_getElem hlt
      generalize l[k] = t at hp
      obtain ⟨_, hp'⟩ := List.getElem?_eq_some_iff.1 hp
      simp [go_sem, tsV, hlt, hp', tcs]
      refine ACall_is (hu t) ?_
      have hel : (edgesOf t).length ≤ 3 := edgesK_le t 3
      simp [go_sem, psV]
      refine ⟨by omega, k + 1, by omega, by omega, ?_⟩
      rw [alluses_succ hp]
      simp [p2_cl]
      exact wrap64_small (by omega) (by omega)
end
end Go.Abs
set_option linter.unusedVariables false
set_option linter.unusedSimpArgs false
namespace Go.Abs

def HasEC (P : Program) (f : FuncId) : Prop := ∀ (l : List P2) (e : P2), l.length ≤ 1000 → CallIs P f [psV l, e.enc] (.b (decide (e ∈ l)))
def IdxEC (P : Program) (f : FuncId) : Prop := ∀ (l : List P2) (e : P2), l.length ≤ 1000 → CallIs P f [psV l, e.enc] (.i .i64 (if e ∈ l then (l.idxOf e : Int) else -1))

/-- A heap in which five objects are turned. -/
structure HB (H : O → O → O → O → O → List O) (n a sa b tb c d q : Nat) : Prop where
  len : ∃ N, ∀ s t u v w, (H s t u v w).length = N
  ga : ∀ s t u v w l, (H s t u v w ++ l)[a]? = some (.arr 1 1 [[.own sa 1 0 n]])
  gs : ∀ s t u v w l, (H s t u v w ++ l)[sa]? = some s
  gb : ∀ s t u v w l, (H s t u v w ++ l)[b]? = some (.arr 1 1 [[.own tb 1 0 n]])
  gt : ∀ s t u v w l, (H s t u v w ++ l)[tb]? = some t
  gc : ∀ s t u v w l, (H s t u v w ++ l)[c]? = some u
  gd : ∀ s t u v w l, (H s t u v w ++ l)[d]? = some v
  gq : ∀ s t u v w l, (H s t u v w ++ l)[q]? = some w
  ss : ∀ s t u v w l o, (H s t u v w ++ l).set sa o = H o t u v w ++ l
  st : ∀ s t u v w l o, (H s t u v w ++ l).set tb o = H s o u v w ++ l
  sc : ∀ s t u v w l o, (H s t u v w ++ l).set c o = H s t o v w ++ l
  sd : ∀ s t u v w l o, (H s t u v w ++ l).set d o = H s t u o w ++ l
  sq : ∀ s t u v w l o, (H s t u v w ++ l).set q o = H s t u v o ++ l
/-- The state of the walk. -/
structure OS where
  X : List Int
  us : List T3
  fl : Nat
  g : Nat
  off : Nat
  Q : List Int
def oH (H : O → O → O → O → O → List O) (n q : Nat) (s : OS) : List O :=
  H (.arr 1 1 (mk n s.X)) (.arr 1 3 (s.us.map T3.cs)) (.arr 1 1 [[.i .i64 s.fl]]) (.arr 1 1 [[.own q s.g s.off (s.Q.length - s.off)]]) (.arr s.g 1 (ics s.Q))
/-- What a visit makes of it. -/
def OS.visit (s : OS) (k : Nat) (e : P2) : OS :=
  if (k : Int) ∈ s.X then s
  else if e ∈ edgesOf (tAt s.us k) then ⟨s.X ++ [(k : Int)], s.us.set k (tAt s.us k).rev, s.fl + 1, s.g + 1, 0, s.Q.drop s.off ++ [(k : Int)]⟩
  else ⟨s.X ++ [(k : Int)], s.us, s.fl, s.g + 1, 0, s.Q.drop s.off ++ [(k : Int)]⟩
def VisitC (P : Program) (f : FuncId) : Prop := ∀ (H : O → O → O → O → O → List O) (n a sa b tb c d q : Nat), HB H n a sa b tb c d q → ∀ (s : OS) (l : List O) (k : Nat) (e : P2), s.us.length = n → k < n → n ≤ 4096 → s.fl ≤ 4096 → s.off ≤ s.Q.length → s.Q.length - s.off ≤ 8192 →
  ACall P f [.i .i64 k, e.enc, .p a 1 0 0, .p b 1 0 0, .p c 1 0 0, .p d 1 0 0] (oH H n q s ++ l) (fun r h' => r = .t [] ∧ h' = oH H n q (s.visit k e) ++ (l ++ [.arr 1 2 [e.cs]]))

theorem idx_at {l : List P2} {e x : P2} {k : Nat} (hp : l[k]? = some x) (hn : e ∉ l.take k) (h : e = x) : e ∈ l ∧ l.idxOf e = k := by
  subst h
  have hlt := (List.getElem?_eq_some_iff.1 hp).1
  refine ⟨List.mem_of_getElem? hp, ?_⟩
  have h1 := List.take_append_drop k l
  rw [List.drop_eq_getElem_cons hlt, (List.getElem?_eq_some_iff.1 hp).2] at h1
  have h2 : (l.take k ++ e :: l.drop (k + 1)).idxOf e = k := by
    rw [List.idxOf_append, if_neg hn, List.idxOf_cons_self]; simp; omega
  rw [h1] at h2
  exact h2

section
variable {P : Program} (hm : P.follows .mixedOrders = true)
include hm

theorem orient_both_ok {f : FuncId} (hf : FnOk P f orient_both.c orient_both.r orient_both.n) : UndC P f := topo_undirected_ok hm hf

set_option maxHeartbeats 4000000 in
theorem slices_IndexE_ok {f : FuncId} (hf : FnOk P f slices_Index_api_Edge_api_Edge.c slices_Index_api_Edge_api_Edge.r slices_Index_api_Edge_api_Edge.n) : IdxEC P f := by
  intro l e hl
  refine PureC.is (pure_of hm hf (Nat.le_of_ble_eq_true rfl) ?_) rfl
  unfold slices_Index_api_Edge_api_Edge.c
  simp [go_sem, psV, P2.enc, P2.cs]
  refine AS_loop (α := Nat) (fun k => k ≤ l.length ∧ e ∉ l.take k)
    (fun k => ⟨[(0, psV l), (3, .p 0 1 0 0), (6, psV l), (7, .i .i64 l.length), (8, .i .i64 k)], [.arr 1 2 [e.cs]]⟩)
    (fun k => l.length - k) 0 ⟨Nat.zero_le _, by simp⟩ ?_ ?_
  · simp [go_sem, psV, P2.cs]
  · rintro k ⟨hk, hn⟩
    by_cases hkl : k = l.length
    · subst hkl
      rw [List.take_length] at hn
      simp [go_sem, psV, slices_Index_api_Edge_api_Edge.r, hn]
    · have hlt : k < l.length := by omega
      have hp : l[k]? = some l[k] := List.getElem?_eq_getElem hlt
      have htk := take_succ_get hp
      have hx := idx_at (e := e) hp hn
      generalize l[k] = t at hp htk hx
      obtain ⟨_, hp'⟩ := List.getElem?_eq_some_iff.1 hp
      simp [go_sem, psV, hlt, hp, hp', pcs]
      refine ⟨fun h1 h2 => ?_, fun h => ?_⟩
      · have het : e = t := p2_ext h1 h2
        have := hx het
        simp [go_sem, slices_Index_api_Edge_api_Edge.r, this]
      · have het : ¬ e = t := fun hh => h (by rw [hh]) (by rw [hh])
        simp (disch := omega) [go_sem, psV, wrap64_small]
        exact ⟨k + 1, ⟨by omega, by rw [htk]; simp [hn, het]⟩, by omega, by omega⟩

theorem slices_ContainsE_ok {f fi : FuncId} (hf : FnOk P f (slices_Contains_api_Edge_api_Edge.c fi) slices_Contains_api_Edge_api_Edge.r slices_Contains_api_Edge_api_Edge.n) (hi : IdxEC P fi) : HasEC P f := by
  intro l e hl
  refine PureC.is (pure_of hm hf (Nat.le_of_ble_eq_true rfl) ?_) rfl
  unfold slices_Contains_api_Edge_api_Edge.c
  have h1 := hi l e hl
  simp [go_sem, psV, P2.enc, P2.cs] at h1 ⊢
  refine ACall_is h1 ?_
  by_cases h : e ∈ l
  · simp [go_sem, h, slices_Contains_api_Edge_api_Edge.r]
  · simp [go_sem, h, slices_Contains_api_Edge_api_Edge.r]

set_option maxHeartbeats 4000000 in
theorem orient_visit_ok {f fe fh fr : FuncId} (hf : FnOk P f (orient_Orient_1.c fe fh fr) orient_Orient_1.r orient_Orient_1.n) (he : EdgesC P fe) (hh : HasEC P fh) (hr : RevTC P fr) : VisitC P f := by
  intro H n a sa b tb c d q hb s l k e hus hk hn hfl hoff hQ
  refine call_keep hm hf (Nat.le_of_ble_eq_true rfl) ?_
  unfold orient_Orient_1.c
  have ga := hb.ga
  have gs := hb.gs
  have gb := hb.gb
  have gt := hb.gt
  have gc := hb.gc
  have gd := hb.gd
  have gq := hb.gq
  have ss := hb.ss
  have st := hb.st
  have sc := hb.sc
  have sd := hb.sd
  have sq := hb.sq
  obtain ⟨N, hN⟩ := hb.len
  have gx : ∀ s t u v w (o : O), (H s t u v w ++ (l ++ [o]))[N + l.length]? = some o := fun s t u v w o => by
    rw [← hN s t u v w, app_get_r, app_get_0]; rfl
  clear hb
  have hmg := mk_get (n := n) (d := s.X) (v := (k : Int)) (by omega) (by omega)
  have hms := mk_set (n := n) (d := s.X) (v := (k : Int)) (by omega)
  rw [Int.toNat_natCast] at hmg hms
  obtain ⟨hml, hmg'⟩ := List.getElem?_eq_some_iff.1 hmg
  have hlen : (edgesOf (tAt s.us k)).length ≤ 3 := edgesK_le _ 3
  have hp : s.us[k]? = some (tAt s.us k) := tAt_get (by omega)
  have hps : ∀ t : T3, (s.us.map T3.cs).set k t.cs = (s.us.set k t).map T3.cs := fun t => by rw [List.map_set]
  unfold oH OS.visit
  have hic : (ics s.Q).drop s.off = ics (s.Q.drop s.off) := by simp [ics]
  have hil : (ics s.Q).length = s.Q.length := by simp [ics]
  have htk : (ics (s.Q.drop s.off)).take (s.Q.length - s.off) = ics (s.Q.drop s.off) := List.take_of_length_le (by simp [ics])
  have hsn : ∀ Z : List Int, ics (Z ++ [(k : Int)]) = ics Z ++ [[.i .i64 (k : Int)]] := fun Z => by simp [ics]
  have hzl : ∀ Z : List Int, (Z ++ [(k : Int)]).length = Z.length + 1 := fun Z => by simp
  have hdl : (s.Q.drop s.off).length = s.Q.length - s.off := by simp
  obtain ⟨X, us, fl, g, off, Q⟩ := s
  simp only at *
  generalize hic2 : ics Q = C at *
  generalize hD : Q.drop off = D at *
  by_cases hX : (k : Int) ∈ X
  · rw [decide_eq_true hX] at hmg hmg'
    simp (disch := omega) [go_sem, P2.enc, P2.cs, hN, gx, ga, gs, hml, hmg, hmg', hX, orient_Orient_1.r]
    exact ⟨hk, by rw [hic2]⟩
  · rw [decide_eq_false hX] at hmg hmg'
    have he1 := he (tAt us k)
    have hh1 := hh (edgesOf (tAt us k)) e (by omega)
    have hr1 := hr (tAt us k)
    generalize tAt us k = t at *
    obtain ⟨hpl, hp'⟩ := List.getElem?_eq_some_iff.1 hp
    simp [go_sem, T3.enc, tcs, P2.enc, P2.cs] at he1 hh1 hr1
    simp (disch := omega) [go_sem, P2.enc, P2.cs, hN, gx, ga, gs, gb, gt, gc, gd, gq, ss, st, sc, sd, sq, hml, hmg, hmg', hms, hX, hpl, hp, hp', tcs]
    refine ⟨hk, ?_⟩
    refine DCall_is he1 ?_
    simp [go_sem, hN, gx, ga, gs, gb, gt, gc, gd, gq, ss, st, sc, sd, sq]
    refine DCall_is hh1 ?_
    by_cases hE : e ∈ edgesOf t
    · simp (disch := omega) [go_sem, hE, hN, gx, ga, gs, gb, gt, gc, gd, gq, ss, st, sc, sd, sq, hpl, hp, hp', tcs]
      refine ⟨hk, ?_⟩
      refine DCall_is hr1 ?_
      simp (disch := omega) [go_sem, hN, gx, ga, gs, gb, gt, gc, gd, gq, ss, st, sc, sd, sq, hpl, hp, hp', tcs, hic, hil, htk, hsn, hzl, hdl, wrap64_small, orient_Orient_1.r]
      exact ⟨hk, by omega, by omega⟩
    · simp (disch := omega) [go_sem, hE, hN, gx, ga, gs, gb, gt, gc, gd, gq, ss, st, sc, sd, sq, hpl, hp, hp', tcs, hic, hil, htk, hsn, hzl, hdl, wrap64_small, orient_Orient_1.r]
      exact ⟨by omega, by omega⟩
end
end Go.Abs
