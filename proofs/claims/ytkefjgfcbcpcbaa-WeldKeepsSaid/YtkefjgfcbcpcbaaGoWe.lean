/- The code of functions of the program, the functions that they call left open. -/
import Derived.Test.YtkefjgfcbcpcbaaGoWeA
set_option linter.unusedVariables false
set_option linter.unusedSimpArgs false
namespace Go.Abs

def law09_WeldMerges.c (law09_few weld_Weld ref09_Weld law09_same law09_awake : FuncId) : C :=
 (.seq
  (.reg [
    ⟨(some 1), none, .box (.t 0)⟩,
    ⟨(some 2), none, .mv (.c (.b false))⟩])
  (.seq
   (.reg [
     ⟨(some 9), none, .ld (some 2) (.t 1)⟩,
     ⟨(some 10), none, .call law09_few [(.t 9)]⟩,
     ⟨none, none, .st 2 (.t 1) (.t 10)⟩])
   (.seq
    (.reg [
      ⟨(some 12), none, .ld (some 2) (.t 1)⟩,
      ⟨(some 13), none, .call weld_Weld [(.t 12)]⟩,
      ⟨(some 11), none, .mv (.t 13)⟩,
      ⟨(some 14), none, .ext (.t 11) 0⟩,
      ⟨(some 15), none, .ext (.t 11) 1⟩,
      ⟨(some 16), none, .ext (.t 11) 2⟩,
      ⟨(some 3), none, .alloc [.nil, .nil]⟩,
      ⟨none, none, .st 2 (.t 3) (.t 14)⟩,
      ⟨(some 4), none, .mv (.t 15)⟩,
      ⟨(some 5), none, .mv (.t 16)⟩])
    (.seq
     (.reg [
       ⟨(some 18), none, .ld (some 2) (.t 1)⟩,
       ⟨(some 19), none, .call ref09_Weld [(.t 18)]⟩,
       ⟨(some 17), none, .mv (.t 19)⟩,
       ⟨(some 20), none, .ext (.t 17) 0⟩,
       ⟨(some 21), none, .ext (.t 17) 1⟩,
       ⟨(some 22), none, .ext (.t 17) 2⟩,
       ⟨(some 6), none, .alloc [.nil, .nil]⟩,
       ⟨none, none, .st 2 (.t 6) (.t 20)⟩,
       ⟨(some 7), none, .mv (.t 21)⟩,
       ⟨(some 8), none, .mv (.t 22)⟩])
     (.seq
      (.reg [
        ⟨(some 23), none, .ld (some 2) (.t 3)⟩,
        ⟨(some 24), none, .ld (some 2) (.t 6)⟩,
        ⟨(some 25), none, .call law09_same [(.t 23), (.t 24)]⟩,
        ⟨(some 26), none, .mv (.t 25)⟩,
        ⟨(some 27), (some (26, true)), .mv (.t 4)⟩,
        ⟨(some 28), (some (26, true)), .mv (.t 7)⟩,
        ⟨(some 29), (some (26, true)), .bin .eql (.t 27) (.t 28)⟩,
        ⟨(some 30), none, .pick (.t 26) (.t 29) (.c (.b false))⟩,
        ⟨(some 31), none, .mv (.t 30)⟩,
        ⟨(some 32), (some (31, true)), .mv (.t 5)⟩,
        ⟨(some 33), (some (31, true)), .mv (.t 8)⟩,
        ⟨(some 34), (some (31, true)), .bin .eql (.t 32) (.t 33)⟩,
        ⟨(some 35), none, .pick (.t 31) (.t 34) (.c (.b false))⟩,
        ⟨(some 36), none, .mv (.t 35)⟩,
        ⟨(some 37), (some (36, true)), .call law09_awake []⟩,
        ⟨(some 38), none, .pick (.t 36) (.t 37) (.c (.b false))⟩,
        ⟨(some 2), none, .mv (.t 38)⟩])
      .ret)))))
def law09_WeldMerges.r : List Rr := [.tmp 2]
abbrev law09_WeldMerges.n : Nat := 39
def law09_WeldKeeps.c (law09_few weld_Weld law09_awake ref07_Check ref07_Corners ref04_Less law09_same : FuncId) : C :=
 (.seq
  (.reg [
    ⟨(some 1), none, .box (.t 0)⟩,
    ⟨(some 2), none, .mv (.c (.b false))⟩])
  (.seq
   (.reg [
     ⟨(some 20), none, .ld (some 2) (.t 1)⟩,
     ⟨(some 21), none, .call law09_few [(.t 20)]⟩,
     ⟨none, none, .st 2 (.t 1) (.t 21)⟩])
   (.seq
    (.reg [
      ⟨(some 23), none, .ld (some 2) (.t 1)⟩,
      ⟨(some 24), none, .call weld_Weld [(.t 23)]⟩,
      ⟨(some 22), none, .mv (.t 24)⟩,
      ⟨(some 25), none, .ext (.t 22) 0⟩,
      ⟨(some 26), none, .ext (.t 22) 1⟩,
      ⟨(some 27), none, .ext (.t 22) 2⟩,
      ⟨(some 3), none, .alloc [.nil, .nil]⟩,
      ⟨none, none, .st 2 (.t 3) (.t 25)⟩,
      ⟨(some 4), none, .mv (.t 26)⟩,
      ⟨(some 5), none, .mv (.t 27)⟩])
    (.seq
     (.seq
      (.reg [
        ⟨(some 28), none, .mv (.t 5)⟩,
        ⟨(some 29), none, .bin .neq (.t 28) (.c (.i .i64 0))⟩])
      (.ite (.t 29)
       (.seq
        (.reg [
          ⟨(some 30), none, .fa 0 (.t 3)⟩,
          ⟨(some 31), none, .ld none (.t 30)⟩,
          ⟨(some 32), none, .len 0 (.t 31)⟩,
          ⟨(some 33), none, .bin .eql (.t 32) (.c (.i .i64 0))⟩,
          ⟨(some 34), none, .mv (.t 33)⟩,
          ⟨(some 35), (some (34, true)), .fa 1 (.t 3)⟩,
          ⟨(some 36), (some (34, true)), .ld none (.t 35)⟩,
          ⟨(some 37), (some (34, true)), .len 0 (.t 36)⟩,
          ⟨(some 38), (some (34, true)), .bin .eql (.t 37) (.c (.i .i64 0))⟩,
          ⟨(some 39), none, .pick (.t 34) (.t 38) (.c (.b false))⟩,
          ⟨(some 40), none, .mv (.t 39)⟩,
          ⟨(some 41), (some (40, true)), .mv (.t 4)⟩,
          ⟨(some 42), (some (40, true)), .bin .eql (.t 41) (.c (.i .i64 0))⟩,
          ⟨(some 43), none, .pick (.t 40) (.t 42) (.c (.b false))⟩,
          ⟨(some 44), none, .mv (.t 43)⟩,
          ⟨(some 45), (some (44, true)), .call law09_awake []⟩,
          ⟨(some 46), none, .pick (.t 44) (.t 45) (.c (.b false))⟩,
          ⟨(some 2), none, .mv (.t 46)⟩])
        .ret)
       .skip))
     (.seq
      (.seq
       (.reg [
         ⟨(some 47), none, .fa 1 (.t 3)⟩,
         ⟨(some 48), none, .ld none (.t 47)⟩,
         ⟨(some 49), none, .len 0 (.t 48)⟩,
         ⟨(some 50), none, .fa 1 (.t 1)⟩,
         ⟨(some 51), none, .ld none (.t 50)⟩,
         ⟨(some 52), none, .len 0 (.t 51)⟩,
         ⟨(some 53), none, .bin .neq (.t 49) (.t 52)⟩,
         ⟨(some 54), none, .mv (.t 53)⟩,
         ⟨(some 55), (some (54, false)), .mv (.t 4)⟩,
         ⟨(some 56), (some (54, false)), .fa 0 (.t 1)⟩,
         ⟨(some 57), (some (54, false)), .ld none (.t 56)⟩,
         ⟨(some 58), (some (54, false)), .len 0 (.t 57)⟩,
         ⟨(some 59), (some (54, false)), .fa 0 (.t 3)⟩,
         ⟨(some 60), (some (54, false)), .ld none (.t 59)⟩,
         ⟨(some 61), (some (54, false)), .len 0 (.t 60)⟩,
         ⟨(some 62), (some (54, false)), .bin .sub (.t 58) (.t 61)⟩,
         ⟨(some 63), (some (54, false)), .bin .neq (.t 55) (.t 62)⟩,
         ⟨(some 64), none, .pick (.t 54) (.c (.b true)) (.t 63)⟩,
         ⟨(some 65), none, .mv (.t 64)⟩,
         ⟨(some 66), (some (65, false)), .ld (some 2) (.t 3)⟩,
         ⟨(some 67), (some (65, false)), .call ref07_Check [(.t 66)]⟩,
         ⟨(some 68), (some (65, false)), .bin .neq (.t 67) (.c (.i .i64 0))⟩,
         ⟨(some 69), none, .pick (.t 65) (.c (.b true)) (.t 68)⟩])
       (.ite (.t 69)
        (.seq
         (.reg [
           ⟨(some 2), none, .mv (.c (.b false))⟩])
         .ret)
        .skip))
      (.seq
       (.reg [
         ⟨(some 70), none, .fa 0 (.t 3)⟩,
         ⟨(some 71), none, .ld none (.t 70)⟩,
         ⟨(some 72), none, .len 0 (.t 71)⟩,
         ⟨(some 73), none, .mks 1 1 [(.b false)] (.t 72)⟩,
         ⟨(some 6), none, .mv (.t 73)⟩])
       (.seq
        (.seq
         (.reg [
           ⟨(some 7), none, .mv (.c (.i .i64 0))⟩])
         (.blk 0
          (.loop
           (.seq
            (.seq
             (.reg [
               ⟨(some 74), none, .mv (.t 7)⟩,
               ⟨(some 75), none, .fa 1 (.t 1)⟩,
               ⟨(some 76), none, .ld none (.t 75)⟩,
               ⟨(some 77), none, .len 0 (.t 76)⟩,
               ⟨(some 78), none, .bin .lss (.t 74) (.t 77)⟩])
             (.ite (.t 78)
              .skip
              (.exit 0)))
            (.seq
             (.blk 1
              (.seq
               (.reg [
                 ⟨(some 82), none, .ld (some 2) (.t 1)⟩,
                 ⟨(some 83), none, .mv (.t 7)⟩,
                 ⟨(some 84), none, .call ref07_Corners [(.t 82), (.t 83)]⟩,
                 ⟨(some 81), none, .mv (.t 84)⟩,
                 ⟨(some 85), none, .ext (.t 81) 0⟩,
                 ⟨(some 86), none, .ext (.t 81) 1⟩,
                 ⟨(some 87), none, .ext (.t 81) 2⟩,
                 ⟨(some 88), none, .ext (.t 81) 3⟩,
                 ⟨(some 8), none, .alloc [(.i .i64 0), (.i .i64 0), (.i .i64 0)]⟩,
                 ⟨(some 9), none, .alloc [(.i .i64 0), (.i .i64 0), (.i .i64 0)]⟩,
                 ⟨(some 10), none, .alloc [(.i .i64 0), (.i .i64 0), (.i .i64 0)]⟩,
                 ⟨none, none, .st 3 (.t 8) (.t 85)⟩,
                 ⟨none, none, .st 3 (.t 9) (.t 86)⟩,
                 ⟨none, none, .st 3 (.t 10) (.t 87)⟩,
                 ⟨(some 11), none, .mv (.t 88)⟩])
               (.seq
                (.reg [
                  ⟨(some 90), none, .ld (some 2) (.t 3)⟩,
                  ⟨(some 91), none, .mv (.t 7)⟩,
                  ⟨(some 92), none, .call ref07_Corners [(.t 90), (.t 91)]⟩,
                  ⟨(some 89), none, .mv (.t 92)⟩,
                  ⟨(some 93), none, .ext (.t 89) 0⟩,
                  ⟨(some 94), none, .ext (.t 89) 1⟩,
                  ⟨(some 95), none, .ext (.t 89) 2⟩,
                  ⟨(some 96), none, .ext (.t 89) 3⟩,
                  ⟨(some 12), none, .alloc [(.i .i64 0), (.i .i64 0), (.i .i64 0)]⟩,
                  ⟨(some 13), none, .alloc [(.i .i64 0), (.i .i64 0), (.i .i64 0)]⟩,
                  ⟨(some 14), none, .alloc [(.i .i64 0), (.i .i64 0), (.i .i64 0)]⟩,
                  ⟨none, none, .st 3 (.t 12) (.t 93)⟩,
                  ⟨none, none, .st 3 (.t 13) (.t 94)⟩,
                  ⟨none, none, .st 3 (.t 14) (.t 95)⟩,
                  ⟨(some 15), none, .mv (.t 96)⟩])
                (.seq
                 (.seq
                  (.reg [
                    ⟨(some 97), none, .mv (.t 11)⟩,
                    ⟨(some 98), none, .un .not (.t 97)⟩,
                    ⟨(some 99), none, .mv (.t 98)⟩,
                    ⟨(some 100), (some (99, false)), .mv (.t 15)⟩,
                    ⟨(some 101), (some (99, false)), .un .not (.t 100)⟩,
                    ⟨(some 102), none, .pick (.t 99) (.c (.b true)) (.t 101)⟩,
                    ⟨(some 103), none, .mv (.t 102)⟩,
                    ⟨(some 104), (some (103, false)), .ld (some 3) (.t 8)⟩,
                    ⟨(some 105), (some (103, false)), .ld (some 3) (.t 12)⟩,
                    ⟨(some 106), (some (103, false)), .eqa [1, 1, 1] true (.t 104) (.t 105)⟩,
                    ⟨(some 107), none, .pick (.t 103) (.c (.b true)) (.t 106)⟩,
                    ⟨(some 108), none, .mv (.t 107)⟩,
                    ⟨(some 109), (some (108, false)), .ld (some 3) (.t 9)⟩,
                    ⟨(some 110), (some (108, false)), .ld (some 3) (.t 13)⟩,
                    ⟨(some 111), (some (108, false)), .eqa [1, 1, 1] true (.t 109) (.t 110)⟩,
                    ⟨(some 112), none, .pick (.t 108) (.c (.b true)) (.t 111)⟩,
                    ⟨(some 113), none, .mv (.t 112)⟩,
                    ⟨(some 114), (some (113, false)), .ld (some 3) (.t 10)⟩,
                    ⟨(some 115), (some (113, false)), .ld (some 3) (.t 14)⟩,
                    ⟨(some 116), (some (113, false)), .eqa [1, 1, 1] true (.t 114) (.t 115)⟩,
                    ⟨(some 117), none, .pick (.t 113) (.c (.b true)) (.t 116)⟩])
                  (.ite (.t 117)
                   (.seq
                    (.reg [
                      ⟨(some 2), none, .mv (.c (.b false))⟩])
                    .ret)
                   .skip))
                 (.seq
                  (.reg [
                    ⟨(some 118), none, .mv (.t 6)⟩,
                    ⟨(some 119), none, .fa 1 (.t 3)⟩,
                    ⟨(some 120), none, .ld none (.t 119)⟩,
                    ⟨(some 121), none, .mv (.t 7)⟩,
                    ⟨(some 122), none, .ia 3 (.t 120) (.t 121)⟩,
                    ⟨(some 123), none, .fa 0 (.t 122)⟩,
                    ⟨(some 124), none, .ld none (.t 123)⟩,
                    ⟨(some 125), none, .ia 1 (.t 118) (.t 124)⟩,
                    ⟨none, none, .st 1 (.t 125) (.c (.b true))⟩])
                  (.seq
                   (.reg [
                     ⟨(some 126), none, .mv (.t 6)⟩,
                     ⟨(some 127), none, .fa 1 (.t 3)⟩,
                     ⟨(some 128), none, .ld none (.t 127)⟩,
                     ⟨(some 129), none, .mv (.t 7)⟩,
                     ⟨(some 130), none, .ia 3 (.t 128) (.t 129)⟩,
                     ⟨(some 131), none, .fa 1 (.t 130)⟩,
                     ⟨(some 132), none, .ld none (.t 131)⟩,
                     ⟨(some 133), none, .ia 1 (.t 126) (.t 132)⟩,
                     ⟨none, none, .st 1 (.t 133) (.c (.b true))⟩])
                   (.reg [
                     ⟨(some 134), none, .mv (.t 6)⟩,
                     ⟨(some 135), none, .fa 1 (.t 3)⟩,
                     ⟨(some 136), none, .ld none (.t 135)⟩,
                     ⟨(some 137), none, .mv (.t 7)⟩,
                     ⟨(some 138), none, .ia 3 (.t 136) (.t 137)⟩,
                     ⟨(some 139), none, .fa 2 (.t 138)⟩,
                     ⟨(some 140), none, .ld none (.t 139)⟩,
                     ⟨(some 141), none, .ia 1 (.t 134) (.t 140)⟩,
                     ⟨none, none, .st 1 (.t 141) (.c (.b true))⟩])))))))
             (.reg [
               ⟨(some 79), none, .mv (.t 7)⟩,
               ⟨(some 80), none, .bin .add (.t 79) (.c (.i .i64 1))⟩,
               ⟨(some 7), none, .mv (.t 80)⟩]))))))
        (.seq
         (.seq
          (.reg [
            ⟨(some 16), none, .mv (.c (.i .i64 0))⟩])
          (.blk 2
           (.loop
            (.seq
             (.seq
              (.reg [
                ⟨(some 142), none, .mv (.t 16)⟩,
                ⟨(some 143), none, .fa 0 (.t 3)⟩,
                ⟨(some 144), none, .ld none (.t 143)⟩,
                ⟨(some 145), none, .len 0 (.t 144)⟩,
                ⟨(some 146), none, .bin .lss (.t 142) (.t 145)⟩])
              (.ite (.t 146)
               .skip
               (.exit 2)))
             (.seq
              (.blk 3
               (.seq
                (.drw [
                  ⟨(some 149), none, .mv (.t 6)⟩,
                  ⟨(some 150), none, .mv (.t 16)⟩,
                  ⟨(some 151), none, .ia 1 (.t 149) (.t 150)⟩,
                  ⟨(some 152), none, .ld none (.t 151)⟩,
                  ⟨(some 153), none, .un .not (.t 152)⟩,
                  ⟨(some 154), none, .mv (.t 153)⟩,
                  ⟨(some 155), (some (154, false)), .mv (.t 16)⟩,
                  ⟨(some 156), (some (154, false)), .bin .gtr (.t 155) (.c (.i .i64 0))⟩,
                  ⟨(some 157), (some (154, false)), .mv (.t 156)⟩,
                  ⟨(some 158), (some (157, true)), .fa 0 (.t 3)⟩,
                  ⟨(some 159), (some (157, true)), .ld none (.t 158)⟩,
                  ⟨(some 160), (some (157, true)), .mv (.t 16)⟩,
                  ⟨(some 161), (some (157, true)), .bin .sub (.t 160) (.c (.i .i64 1))⟩,
                  ⟨(some 162), (some (157, true)), .ia 3 (.t 159) (.t 161)⟩,
                  ⟨(some 163), (some (157, true)), .ld (some 3) (.t 162)⟩,
                  ⟨(some 164), (some (157, true)), .fa 0 (.t 3)⟩,
                  ⟨(some 165), (some (157, true)), .ld none (.t 164)⟩,
                  ⟨(some 166), (some (157, true)), .mv (.t 16)⟩,
                  ⟨(some 167), (some (157, true)), .ia 3 (.t 165) (.t 166)⟩,
                  ⟨(some 168), (some (157, true)), .ld (some 3) (.t 167)⟩,
                  ⟨(some 169), (some (157, true)), .call ref04_Less [(.t 163), (.t 168)]⟩,
                  ⟨(some 170), (some (157, true)), .un .not (.t 169)⟩,
                  ⟨(some 171), (some (154, false)), .pick (.t 157) (.t 170) (.c (.b false))⟩,
                  ⟨(some 172), none, .pick (.t 154) (.c (.b true)) (.t 171)⟩] [])
                (.ite (.t 172)
                 (.seq
                  (.reg [
                    ⟨(some 2), none, .mv (.c (.b false))⟩])
                  .ret)
                 .skip)))
              (.reg [
                ⟨(some 147), none, .mv (.t 16)⟩,
                ⟨(some 148), none, .bin .add (.t 147) (.c (.i .i64 1))⟩,
                ⟨(some 16), none, .mv (.t 148)⟩]))))))
         (.seq
          (.reg [
            ⟨(some 174), none, .ld (some 2) (.t 3)⟩,
            ⟨(some 175), none, .call weld_Weld [(.t 174)]⟩,
            ⟨(some 173), none, .mv (.t 175)⟩,
            ⟨(some 176), none, .ext (.t 173) 0⟩,
            ⟨(some 177), none, .ext (.t 173) 1⟩,
            ⟨(some 178), none, .ext (.t 173) 2⟩,
            ⟨(some 17), none, .alloc [.nil, .nil]⟩,
            ⟨none, none, .st 2 (.t 17) (.t 176)⟩,
            ⟨(some 18), none, .mv (.t 177)⟩,
            ⟨(some 19), none, .mv (.t 178)⟩])
          (.seq
           (.reg [
             ⟨(some 179), none, .ld (some 2) (.t 17)⟩,
             ⟨(some 180), none, .ld (some 2) (.t 3)⟩,
             ⟨(some 181), none, .call law09_same [(.t 179), (.t 180)]⟩,
             ⟨(some 182), none, .mv (.t 181)⟩,
             ⟨(some 183), (some (182, true)), .mv (.t 18)⟩,
             ⟨(some 184), (some (182, true)), .bin .eql (.t 183) (.c (.i .i64 0))⟩,
             ⟨(some 185), none, .pick (.t 182) (.t 184) (.c (.b false))⟩,
             ⟨(some 186), none, .mv (.t 185)⟩,
             ⟨(some 187), (some (186, true)), .mv (.t 19)⟩,
             ⟨(some 188), (some (186, true)), .bin .eql (.t 187) (.c (.i .i64 0))⟩,
             ⟨(some 189), none, .pick (.t 186) (.t 188) (.c (.b false))⟩,
             ⟨(some 190), none, .mv (.t 189)⟩,
             ⟨(some 191), (some (190, true)), .call law09_awake []⟩,
             ⟨(some 192), none, .pick (.t 190) (.t 191) (.c (.b false))⟩,
             ⟨(some 2), none, .mv (.t 192)⟩])
           .ret))))))))))
def law09_WeldKeeps.r : List Rr := [.tmp 2]
abbrev law09_WeldKeeps.n : Nat := 193
def law09_WeldFirst.c (law09_few law09_awake weld_Weld weld_Clean law09_corners : FuncId) : C :=
 (.seq
  (.reg [
    ⟨(some 1), none, .box (.t 0)⟩,
    ⟨(some 2), none, .mv (.c (.b false))⟩])
  (.seq
   (.reg [
     ⟨(some 19), none, .ld (some 2) (.t 1)⟩,
     ⟨(some 20), none, .call law09_few [(.t 19)]⟩,
     ⟨none, none, .st 2 (.t 1) (.t 20)⟩])
   (.seq
    (.seq
     (.reg [
       ⟨(some 3), none, .mv (.c (.i .i64 0))⟩])
     (.blk 0
      (.loop
       (.seq
        (.seq
         (.reg [
           ⟨(some 21), none, .mv (.t 3)⟩,
           ⟨(some 22), none, .fa 0 (.t 1)⟩,
           ⟨(some 23), none, .ld none (.t 22)⟩,
           ⟨(some 24), none, .len 0 (.t 23)⟩,
           ⟨(some 25), none, .bin .lss (.t 21) (.t 24)⟩])
         (.ite (.t 25)
          .skip
          (.exit 0)))
        (.seq
         (.blk 1
          (.seq
           (.reg [
             ⟨(some 4), none, .mv (.c (.i .i64 0))⟩])
           (.blk 2
            (.loop
             (.seq
              (.seq
               (.reg [
                 ⟨(some 28), none, .mv (.t 4)⟩,
                 ⟨(some 29), none, .mv (.t 3)⟩,
                 ⟨(some 30), none, .bin .lss (.t 28) (.t 29)⟩])
               (.ite (.t 30)
                .skip
                (.exit 2)))
              (.seq
               (.blk 3
                (.seq
                 (.drw [
                   ⟨(some 33), none, .fa 0 (.t 1)⟩,
                   ⟨(some 34), none, .ld none (.t 33)⟩,
                   ⟨(some 35), none, .mv (.t 3)⟩,
                   ⟨(some 36), none, .ia 3 (.t 34) (.t 35)⟩,
                   ⟨(some 37), none, .ld (some 3) (.t 36)⟩,
                   ⟨(some 38), none, .fa 0 (.t 1)⟩,
                   ⟨(some 39), none, .ld none (.t 38)⟩,
                   ⟨(some 40), none, .mv (.t 4)⟩,
                   ⟨(some 41), none, .ia 3 (.t 39) (.t 40)⟩,
                   ⟨(some 42), none, .ld (some 3) (.t 41)⟩,
                   ⟨(some 43), none, .eqa [1, 1, 1] false (.t 37) (.t 42)⟩] [])
                 (.ite (.t 43)
                  (.seq
                   (.reg [
                     ⟨(some 44), none, .call law09_awake []⟩,
                     ⟨(some 2), none, .mv (.t 44)⟩])
                   .ret)
                  .skip)))
               (.reg [
                 ⟨(some 31), none, .mv (.t 4)⟩,
                 ⟨(some 32), none, .bin .add (.t 31) (.c (.i .i64 1))⟩,
                 ⟨(some 4), none, .mv (.t 32)⟩])))))))
         (.reg [
           ⟨(some 26), none, .mv (.t 3)⟩,
           ⟨(some 27), none, .bin .add (.t 26) (.c (.i .i64 1))⟩,
           ⟨(some 3), none, .mv (.t 27)⟩]))))))
    (.seq
     (.reg [
       ⟨(some 46), none, .ld (some 2) (.t 1)⟩,
       ⟨(some 47), none, .call weld_Weld [(.t 46)]⟩,
       ⟨(some 45), none, .mv (.t 47)⟩,
       ⟨(some 48), none, .ext (.t 45) 0⟩,
       ⟨(some 49), none, .ext (.t 45) 1⟩,
       ⟨(some 50), none, .ext (.t 45) 2⟩,
       ⟨(some 5), none, .alloc [.nil, .nil]⟩,
       ⟨none, none, .st 2 (.t 5) (.t 48)⟩,
       ⟨(some 6), none, .mv (.t 49)⟩,
       ⟨(some 7), none, .mv (.t 50)⟩])
     (.seq
      (.reg [
        ⟨(some 52), none, .ld (some 2) (.t 5)⟩,
        ⟨(some 53), none, .call weld_Clean [(.t 52)]⟩,
        ⟨(some 51), none, .mv (.t 53)⟩,
        ⟨(some 54), none, .ext (.t 51) 0⟩,
        ⟨(some 55), none, .ext (.t 51) 1⟩,
        ⟨(some 56), none, .ext (.t 51) 2⟩,
        ⟨(some 57), none, .ext (.t 51) 3⟩,
        ⟨(some 8), none, .alloc [.nil, .nil]⟩,
        ⟨none, none, .st 2 (.t 8) (.t 54)⟩,
        ⟨(some 9), none, .mv (.t 55)⟩,
        ⟨(some 10), none, .mv (.t 56)⟩,
        ⟨(some 11), none, .mv (.t 57)⟩])
      (.seq
       (.reg [
         ⟨(some 59), none, .ld (some 2) (.t 1)⟩,
         ⟨(some 60), none, .call weld_Clean [(.t 59)]⟩,
         ⟨(some 58), none, .mv (.t 60)⟩,
         ⟨(some 61), none, .ext (.t 58) 0⟩,
         ⟨(some 62), none, .ext (.t 58) 1⟩,
         ⟨(some 63), none, .ext (.t 58) 2⟩,
         ⟨(some 64), none, .ext (.t 58) 3⟩,
         ⟨(some 12), none, .alloc [.nil, .nil]⟩,
         ⟨none, none, .st 2 (.t 12) (.t 61)⟩,
         ⟨(some 13), none, .mv (.t 62)⟩,
         ⟨(some 14), none, .mv (.t 63)⟩,
         ⟨(some 15), none, .mv (.t 64)⟩])
       (.seq
        (.reg [
          ⟨(some 66), none, .ld (some 2) (.t 12)⟩,
          ⟨(some 67), none, .call weld_Weld [(.t 66)]⟩,
          ⟨(some 65), none, .mv (.t 67)⟩,
          ⟨(some 68), none, .ext (.t 65) 0⟩,
          ⟨(some 69), none, .ext (.t 65) 1⟩,
          ⟨(some 70), none, .ext (.t 65) 2⟩,
          ⟨(some 16), none, .alloc [.nil, .nil]⟩,
          ⟨none, none, .st 2 (.t 16) (.t 68)⟩,
          ⟨(some 17), none, .mv (.t 69)⟩,
          ⟨(some 18), none, .mv (.t 70)⟩])
        (.seq
         (.seq
          (.reg [
            ⟨(some 71), none, .mv (.t 7)⟩,
            ⟨(some 72), none, .bin .neq (.t 71) (.c (.i .i64 0))⟩])
          (.ite (.t 72)
           (.seq
            (.reg [
              ⟨(some 73), none, .mv (.t 11)⟩,
              ⟨(some 74), none, .bin .neq (.t 73) (.c (.i .i64 0))⟩,
              ⟨(some 75), none, .mv (.t 74)⟩,
              ⟨(some 76), (some (75, false)), .fa 1 (.t 5)⟩,
              ⟨(some 77), (some (75, false)), .ld none (.t 76)⟩,
              ⟨(some 78), (some (75, false)), .len 0 (.t 77)⟩,
              ⟨(some 79), (some (75, false)), .bin .eql (.t 78) (.c (.i .i64 0))⟩,
              ⟨(some 80), (some (75, false)), .mv (.t 79)⟩,
              ⟨(some 81), (some (80, true)), .call law09_awake []⟩,
              ⟨(some 82), (some (75, false)), .pick (.t 80) (.t 81) (.c (.b false))⟩,
              ⟨(some 83), none, .pick (.t 75) (.c (.b true)) (.t 82)⟩,
              ⟨(some 2), none, .mv (.t 83)⟩])
            .ret)
           .skip))
         (.seq
          (.reg [
            ⟨(some 84), none, .mv (.t 11)⟩,
            ⟨(some 85), none, .bin .eql (.t 84) (.c (.i .i64 0))⟩,
            ⟨(some 86), none, .mv (.t 85)⟩,
            ⟨(some 87), (some (86, true)), .mv (.t 15)⟩,
            ⟨(some 88), (some (86, true)), .bin .eql (.t 87) (.c (.i .i64 0))⟩,
            ⟨(some 89), none, .pick (.t 86) (.t 88) (.c (.b false))⟩,
            ⟨(some 90), none, .mv (.t 89)⟩,
            ⟨(some 91), (some (90, true)), .mv (.t 18)⟩,
            ⟨(some 92), (some (90, true)), .bin .eql (.t 91) (.c (.i .i64 0))⟩,
            ⟨(some 93), none, .pick (.t 90) (.t 92) (.c (.b false))⟩,
            ⟨(some 94), none, .mv (.t 93)⟩,
            ⟨(some 95), (some (94, true)), .mv (.t 9)⟩,
            ⟨(some 96), (some (94, true)), .mv (.t 13)⟩,
            ⟨(some 97), (some (94, true)), .bin .eql (.t 95) (.t 96)⟩,
            ⟨(some 98), none, .pick (.t 94) (.t 97) (.c (.b false))⟩,
            ⟨(some 99), none, .mv (.t 98)⟩,
            ⟨(some 100), (some (99, true)), .mv (.t 10)⟩,
            ⟨(some 101), (some (99, true)), .mv (.t 14)⟩,
            ⟨(some 102), (some (99, true)), .bin .eql (.t 100) (.t 101)⟩,
            ⟨(some 103), none, .pick (.t 99) (.t 102) (.c (.b false))⟩,
            ⟨(some 104), none, .mv (.t 103)⟩,
            ⟨(some 105), (some (104, true)), .fa 1 (.t 8)⟩,
            ⟨(some 106), (some (104, true)), .ld none (.t 105)⟩,
            ⟨(some 107), (some (104, true)), .len 0 (.t 106)⟩,
            ⟨(some 108), (some (104, true)), .fa 1 (.t 16)⟩,
            ⟨(some 109), (some (104, true)), .ld none (.t 108)⟩,
            ⟨(some 110), (some (104, true)), .len 0 (.t 109)⟩,
            ⟨(some 111), (some (104, true)), .bin .eql (.t 107) (.t 110)⟩,
            ⟨(some 112), none, .pick (.t 104) (.t 111) (.c (.b false))⟩,
            ⟨(some 113), none, .mv (.t 112)⟩,
            ⟨(some 114), (some (113, true)), .ld (some 2) (.t 8)⟩,
            ⟨(some 115), (some (113, true)), .ld (some 2) (.t 16)⟩,
            ⟨(some 116), (some (113, true)), .call law09_corners [(.t 114), (.t 115)]⟩,
            ⟨(some 117), none, .pick (.t 113) (.t 116) (.c (.b false))⟩,
            ⟨(some 118), none, .mv (.t 117)⟩,
            ⟨(some 119), (some (118, true)), .call law09_awake []⟩,
            ⟨(some 120), none, .pick (.t 118) (.t 119) (.c (.b false))⟩,
            ⟨(some 2), none, .mv (.t 120)⟩])
          .ret)))))))))
def law09_WeldFirst.r : List Rr := [.tmp 2]
abbrev law09_WeldFirst.n : Nat := 121
def law09_WeldCleans.c (law09_few weld_Clean ref09_Clean law09_same weld_Degenerate ref09_Degenerate law09_awake : FuncId) : C :=
 (.seq
  (.reg [
    ⟨(some 2), none, .box (.t 0)⟩,
    ⟨(some 4), none, .mv (.c (.b false))⟩])
  (.seq
   (.reg [
     ⟨(some 13), none, .ld (some 2) (.t 2)⟩,
     ⟨(some 14), none, .call law09_few [(.t 13)]⟩,
     ⟨none, none, .st 2 (.t 2) (.t 14)⟩])
   (.seq
    (.reg [
      ⟨(some 16), none, .ld (some 2) (.t 2)⟩,
      ⟨(some 17), none, .call weld_Clean [(.t 16)]⟩,
      ⟨(some 15), none, .mv (.t 17)⟩,
      ⟨(some 18), none, .ext (.t 15) 0⟩,
      ⟨(some 19), none, .ext (.t 15) 1⟩,
      ⟨(some 20), none, .ext (.t 15) 2⟩,
      ⟨(some 21), none, .ext (.t 15) 3⟩,
      ⟨(some 5), none, .alloc [.nil, .nil]⟩,
      ⟨none, none, .st 2 (.t 5) (.t 18)⟩,
      ⟨(some 6), none, .mv (.t 19)⟩,
      ⟨(some 7), none, .mv (.t 20)⟩,
      ⟨(some 8), none, .mv (.t 21)⟩])
    (.seq
     (.reg [
       ⟨(some 23), none, .ld (some 2) (.t 2)⟩,
       ⟨(some 24), none, .call ref09_Clean [(.t 23)]⟩,
       ⟨(some 22), none, .mv (.t 24)⟩,
       ⟨(some 25), none, .ext (.t 22) 0⟩,
       ⟨(some 26), none, .ext (.t 22) 1⟩,
       ⟨(some 27), none, .ext (.t 22) 2⟩,
       ⟨(some 28), none, .ext (.t 22) 3⟩,
       ⟨(some 9), none, .alloc [.nil, .nil]⟩,
       ⟨none, none, .st 2 (.t 9) (.t 25)⟩,
       ⟨(some 10), none, .mv (.t 26)⟩,
       ⟨(some 11), none, .mv (.t 27)⟩,
       ⟨(some 12), none, .mv (.t 28)⟩])
     (.seq
      (.drw [
        ⟨(some 29), none, .ld (some 2) (.t 5)⟩,
        ⟨(some 30), none, .ld (some 2) (.t 9)⟩,
        ⟨(some 31), none, .call law09_same [(.t 29), (.t 30)]⟩,
        ⟨(some 32), none, .mv (.t 31)⟩,
        ⟨(some 33), (some (32, true)), .mv (.t 6)⟩,
        ⟨(some 34), (some (32, true)), .mv (.t 10)⟩,
        ⟨(some 35), (some (32, true)), .bin .eql (.t 33) (.t 34)⟩,
        ⟨(some 36), none, .pick (.t 32) (.t 35) (.c (.b false))⟩,
        ⟨(some 37), none, .mv (.t 36)⟩,
        ⟨(some 38), (some (37, true)), .mv (.t 7)⟩,
        ⟨(some 39), (some (37, true)), .mv (.t 11)⟩,
        ⟨(some 40), (some (37, true)), .bin .eql (.t 38) (.t 39)⟩,
        ⟨(some 41), none, .pick (.t 37) (.t 40) (.c (.b false))⟩,
        ⟨(some 42), none, .mv (.t 41)⟩,
        ⟨(some 43), (some (42, true)), .mv (.t 8)⟩,
        ⟨(some 44), (some (42, true)), .mv (.t 12)⟩,
        ⟨(some 45), (some (42, true)), .bin .eql (.t 43) (.t 44)⟩,
        ⟨(some 46), none, .pick (.t 42) (.t 45) (.c (.b false))⟩,
        ⟨(some 47), none, .mv (.t 46)⟩,
        ⟨(some 48), (some (47, true)), .ld (some 2) (.t 2)⟩,
        ⟨(some 49), (some (47, true)), .mv (.t 1)⟩,
        ⟨(some 50), (some (47, true)), .call weld_Degenerate [(.t 48), (.t 49)]⟩,
        ⟨(some 51), (some (47, true)), .ld (some 2) (.t 2)⟩,
        ⟨(some 52), (some (47, true)), .mv (.t 1)⟩,
        ⟨(some 53), (some (47, true)), .call ref09_Degenerate [(.t 51), (.t 52)]⟩,
        ⟨(some 54), (some (47, true)), .eqb false (.t 50) (.t 53)⟩,
        ⟨(some 55), none, .pick (.t 47) (.t 54) (.c (.b false))⟩,
        ⟨(some 56), none, .mv (.t 55)⟩,
        ⟨(some 57), (some (56, true)), .call law09_awake []⟩,
        ⟨(some 58), none, .pick (.t 56) (.t 57) (.c (.b false))⟩,
        ⟨(some 4), none, .mv (.t 58)⟩] [[], [], [], [], [], [], [], [], [], [], [], [], [], [], [], [], [], [], [], [], [], [], [21], [], [], [], [], [], [], [], []])
      .ret)))))
def law09_WeldCleans.r : List Rr := [.tmp 4]
abbrev law09_WeldCleans.n : Nat := 59
def law09_WeldOnce.c (law09_few weld_Clean law09_awake weld_Degenerate ref09_Twins law09_same : FuncId) : C :=
 (.seq
  (.reg [
    ⟨(some 1), none, .box (.t 0)⟩,
    ⟨(some 2), none, .mv (.c (.b false))⟩])
  (.seq
   (.reg [
     ⟨(some 14), none, .ld (some 2) (.t 1)⟩,
     ⟨(some 15), none, .call law09_few [(.t 14)]⟩,
     ⟨none, none, .st 2 (.t 1) (.t 15)⟩])
   (.seq
    (.reg [
      ⟨(some 17), none, .ld (some 2) (.t 1)⟩,
      ⟨(some 18), none, .call weld_Clean [(.t 17)]⟩,
      ⟨(some 16), none, .mv (.t 18)⟩,
      ⟨(some 19), none, .ext (.t 16) 0⟩,
      ⟨(some 20), none, .ext (.t 16) 1⟩,
      ⟨(some 21), none, .ext (.t 16) 2⟩,
      ⟨(some 22), none, .ext (.t 16) 3⟩,
      ⟨(some 3), none, .alloc [.nil, .nil]⟩,
      ⟨none, none, .st 2 (.t 3) (.t 19)⟩,
      ⟨(some 4), none, .mv (.t 20)⟩,
      ⟨(some 5), none, .mv (.t 21)⟩,
      ⟨(some 6), none, .mv (.t 22)⟩])
    (.seq
     (.seq
      (.reg [
        ⟨(some 23), none, .mv (.t 6)⟩,
        ⟨(some 24), none, .bin .neq (.t 23) (.c (.i .i64 0))⟩])
      (.ite (.t 24)
       (.seq
        (.reg [
          ⟨(some 25), none, .fa 1 (.t 3)⟩,
          ⟨(some 26), none, .ld none (.t 25)⟩,
          ⟨(some 27), none, .len 0 (.t 26)⟩,
          ⟨(some 28), none, .bin .eql (.t 27) (.c (.i .i64 0))⟩,
          ⟨(some 29), none, .mv (.t 28)⟩,
          ⟨(some 30), (some (29, true)), .mv (.t 4)⟩,
          ⟨(some 31), (some (29, true)), .bin .eql (.t 30) (.c (.i .i64 0))⟩,
          ⟨(some 32), none, .pick (.t 29) (.t 31) (.c (.b false))⟩,
          ⟨(some 33), none, .mv (.t 32)⟩,
          ⟨(some 34), (some (33, true)), .mv (.t 5)⟩,
          ⟨(some 35), (some (33, true)), .bin .eql (.t 34) (.c (.i .i64 0))⟩,
          ⟨(some 36), none, .pick (.t 33) (.t 35) (.c (.b false))⟩,
          ⟨(some 37), none, .mv (.t 36)⟩,
          ⟨(some 38), (some (37, true)), .call law09_awake []⟩,
          ⟨(some 39), none, .pick (.t 37) (.t 38) (.c (.b false))⟩,
          ⟨(some 2), none, .mv (.t 39)⟩])
        .ret)
       .skip))
     (.seq
      (.reg [
        ⟨(some 7), none, .mv (.c (.i .i64 0))⟩])
      (.seq
       (.seq
        (.reg [
          ⟨(some 8), none, .mv (.c (.i .i64 0))⟩])
        (.blk 0
         (.loop
          (.seq
           (.seq
            (.reg [
              ⟨(some 40), none, .mv (.t 8)⟩,
              ⟨(some 41), none, .fa 1 (.t 3)⟩,
              ⟨(some 42), none, .ld none (.t 41)⟩,
              ⟨(some 43), none, .len 0 (.t 42)⟩,
              ⟨(some 44), none, .bin .lss (.t 40) (.t 43)⟩])
            (.ite (.t 44)
             .skip
             (.exit 0)))
           (.seq
            (.blk 1
             (.seq
              (.blk 2
               (.loop
                (.seq
                 (.seq
                  (.drw [
                    ⟨(some 47), none, .mv (.t 7)⟩,
                    ⟨(some 48), none, .fa 1 (.t 1)⟩,
                    ⟨(some 49), none, .ld none (.t 48)⟩,
                    ⟨(some 50), none, .len 0 (.t 49)⟩,
                    ⟨(some 51), none, .bin .lss (.t 47) (.t 50)⟩,
                    ⟨(some 52), none, .mv (.t 51)⟩,
                    ⟨(some 53), (some (52, true)), .fa 1 (.t 1)⟩,
                    ⟨(some 54), (some (52, true)), .ld none (.t 53)⟩,
                    ⟨(some 55), (some (52, true)), .mv (.t 7)⟩,
                    ⟨(some 56), (some (52, true)), .ia 3 (.t 54) (.t 55)⟩,
                    ⟨(some 57), (some (52, true)), .ld (some 3) (.t 56)⟩,
                    ⟨(some 58), (some (52, true)), .fa 1 (.t 3)⟩,
                    ⟨(some 59), (some (52, true)), .ld none (.t 58)⟩,
                    ⟨(some 60), (some (52, true)), .mv (.t 8)⟩,
                    ⟨(some 61), (some (52, true)), .ia 3 (.t 59) (.t 60)⟩,
                    ⟨(some 62), (some (52, true)), .ld (some 3) (.t 61)⟩,
                    ⟨(some 63), (some (52, true)), .eqa [1, 1, 1] true (.t 57) (.t 62)⟩,
                    ⟨(some 64), none, .pick (.t 52) (.t 63) (.c (.b false))⟩] [])
                  (.ite (.t 64)
                   .skip
                   (.exit 2)))
                 (.blk 3
                  (.reg [
                    ⟨(some 65), none, .mv (.t 7)⟩,
                    ⟨(some 66), none, .bin .add (.t 65) (.c (.i .i64 1))⟩,
                    ⟨(some 7), none, .mv (.t 66)⟩])))))
              (.seq
               (.seq
                (.reg [
                  ⟨(some 67), none, .mv (.t 7)⟩,
                  ⟨(some 68), none, .fa 1 (.t 1)⟩,
                  ⟨(some 69), none, .ld none (.t 68)⟩,
                  ⟨(some 70), none, .len 0 (.t 69)⟩,
                  ⟨(some 71), none, .bin .geq (.t 67) (.t 70)⟩,
                  ⟨(some 72), none, .mv (.t 71)⟩,
                  ⟨(some 73), (some (72, false)), .ld (some 2) (.t 3)⟩,
                  ⟨(some 74), (some (72, false)), .mv (.t 8)⟩,
                  ⟨(some 75), (some (72, false)), .call weld_Degenerate [(.t 73), (.t 74)]⟩,
                  ⟨(some 76), none, .pick (.t 72) (.c (.b true)) (.t 75)⟩])
                (.ite (.t 76)
                 (.seq
                  (.reg [
                    ⟨(some 2), none, .mv (.c (.b false))⟩])
                  .ret)
                 .skip))
               (.seq
                (.reg [
                  ⟨(some 77), none, .mv (.t 7)⟩,
                  ⟨(some 78), none, .bin .add (.t 77) (.c (.i .i64 1))⟩,
                  ⟨(some 7), none, .mv (.t 78)⟩])
                (.seq
                 (.reg [
                   ⟨(some 9), none, .mv (.c (.i .i64 0))⟩])
                 (.blk 4
                  (.loop
                   (.seq
                    (.seq
                     (.reg [
                       ⟨(some 79), none, .mv (.t 9)⟩,
                       ⟨(some 80), none, .mv (.t 8)⟩,
                       ⟨(some 81), none, .bin .lss (.t 79) (.t 80)⟩])
                     (.ite (.t 81)
                      .skip
                      (.exit 4)))
                    (.seq
                     (.blk 5
                      (.seq
                       (.drw [
                         ⟨(some 84), none, .fa 1 (.t 3)⟩,
                         ⟨(some 85), none, .ld none (.t 84)⟩,
                         ⟨(some 86), none, .mv (.t 8)⟩,
                         ⟨(some 87), none, .ia 3 (.t 85) (.t 86)⟩,
                         ⟨(some 88), none, .ld (some 3) (.t 87)⟩,
                         ⟨(some 89), none, .fa 1 (.t 3)⟩,
                         ⟨(some 90), none, .ld none (.t 89)⟩,
                         ⟨(some 91), none, .mv (.t 9)⟩,
                         ⟨(some 92), none, .ia 3 (.t 90) (.t 91)⟩,
                         ⟨(some 93), none, .ld (some 3) (.t 92)⟩,
                         ⟨(some 94), none, .call ref09_Twins [(.t 88), (.t 93)]⟩] [])
                       (.ite (.t 94)
                        (.seq
                         (.reg [
                           ⟨(some 2), none, .mv (.c (.b false))⟩])
                         .ret)
                        .skip)))
                     (.reg [
                       ⟨(some 82), none, .mv (.t 9)⟩,
                       ⟨(some 83), none, .bin .add (.t 82) (.c (.i .i64 1))⟩,
                       ⟨(some 9), none, .mv (.t 83)⟩]))))))))))
            (.reg [
              ⟨(some 45), none, .mv (.t 8)⟩,
              ⟨(some 46), none, .bin .add (.t 45) (.c (.i .i64 1))⟩,
              ⟨(some 8), none, .mv (.t 46)⟩]))))))
       (.seq
        (.reg [
          ⟨(some 96), none, .ld (some 2) (.t 3)⟩,
          ⟨(some 97), none, .call weld_Clean [(.t 96)]⟩,
          ⟨(some 95), none, .mv (.t 97)⟩,
          ⟨(some 98), none, .ext (.t 95) 0⟩,
          ⟨(some 99), none, .ext (.t 95) 1⟩,
          ⟨(some 100), none, .ext (.t 95) 2⟩,
          ⟨(some 101), none, .ext (.t 95) 3⟩,
          ⟨(some 10), none, .alloc [.nil, .nil]⟩,
          ⟨none, none, .st 2 (.t 10) (.t 98)⟩,
          ⟨(some 11), none, .mv (.t 99)⟩,
          ⟨(some 12), none, .mv (.t 100)⟩,
          ⟨(some 13), none, .mv (.t 101)⟩])
        (.seq
         (.reg [
           ⟨(some 102), none, .fa 1 (.t 3)⟩,
           ⟨(some 103), none, .ld none (.t 102)⟩,
           ⟨(some 104), none, .len 0 (.t 103)⟩,
           ⟨(some 105), none, .mv (.t 4)⟩,
           ⟨(some 106), none, .bin .add (.t 104) (.t 105)⟩,
           ⟨(some 107), none, .mv (.t 5)⟩,
           ⟨(some 108), none, .bin .add (.t 106) (.t 107)⟩,
           ⟨(some 109), none, .fa 1 (.t 1)⟩,
           ⟨(some 110), none, .ld none (.t 109)⟩,
           ⟨(some 111), none, .len 0 (.t 110)⟩,
           ⟨(some 112), none, .bin .eql (.t 108) (.t 111)⟩,
           ⟨(some 113), none, .mv (.t 112)⟩,
           ⟨(some 114), (some (113, true)), .fa 0 (.t 3)⟩,
           ⟨(some 115), (some (113, true)), .ld none (.t 114)⟩,
           ⟨(some 116), (some (113, true)), .len 0 (.t 115)⟩,
           ⟨(some 117), (some (113, true)), .fa 0 (.t 1)⟩,
           ⟨(some 118), (some (113, true)), .ld none (.t 117)⟩,
           ⟨(some 119), (some (113, true)), .len 0 (.t 118)⟩,
           ⟨(some 120), (some (113, true)), .bin .eql (.t 116) (.t 119)⟩,
           ⟨(some 121), none, .pick (.t 113) (.t 120) (.c (.b false))⟩,
           ⟨(some 122), none, .mv (.t 121)⟩,
           ⟨(some 123), (some (122, true)), .ld (some 2) (.t 3)⟩,
           ⟨(some 124), (some (122, true)), .ld (some 2) (.t 10)⟩,
           ⟨(some 125), (some (122, true)), .call law09_same [(.t 123), (.t 124)]⟩,
           ⟨(some 126), none, .pick (.t 122) (.t 125) (.c (.b false))⟩,
           ⟨(some 127), none, .mv (.t 126)⟩,
           ⟨(some 128), (some (127, true)), .mv (.t 11)⟩,
           ⟨(some 129), (some (127, true)), .bin .eql (.t 128) (.c (.i .i64 0))⟩,
           ⟨(some 130), none, .pick (.t 127) (.t 129) (.c (.b false))⟩,
           ⟨(some 131), none, .mv (.t 130)⟩,
           ⟨(some 132), (some (131, true)), .mv (.t 12)⟩,
           ⟨(some 133), (some (131, true)), .bin .eql (.t 132) (.c (.i .i64 0))⟩,
           ⟨(some 134), none, .pick (.t 131) (.t 133) (.c (.b false))⟩,
           ⟨(some 135), none, .mv (.t 134)⟩,
           ⟨(some 136), (some (135, true)), .mv (.t 13)⟩,
           ⟨(some 137), (some (135, true)), .bin .eql (.t 136) (.c (.i .i64 0))⟩,
           ⟨(some 138), none, .pick (.t 135) (.t 137) (.c (.b false))⟩,
           ⟨(some 139), none, .mv (.t 138)⟩,
           ⟨(some 140), (some (139, true)), .call law09_awake []⟩,
           ⟨(some 141), none, .pick (.t 139) (.t 140) (.c (.b false))⟩,
           ⟨(some 2), none, .mv (.t 141)⟩])
         .ret))))))))
def law09_WeldOnce.r : List Rr := [.tmp 2]
abbrev law09_WeldOnce.n : Nat := 142
def law09_few.c : C :=
 (.seq
  (.reg [
    ⟨(some 1), none, .box (.t 0)⟩,
    ⟨(some 2), none, .alloc [.nil, .nil]⟩])
  (.seq
   (.seq
    (.reg [
      ⟨(some 3), none, .fa 0 (.t 1)⟩,
      ⟨(some 4), none, .ld none (.t 3)⟩,
      ⟨(some 5), none, .len 0 (.t 4)⟩,
      ⟨(some 6), none, .bin .gtr (.t 5) (.c (.i .i64 60))⟩])
    (.ite (.t 6)
     (.reg [
       ⟨(some 7), none, .fa 0 (.t 1)⟩,
       ⟨(some 8), none, .ld none (.t 7)⟩,
       ⟨(some 9), none, .slc 3 (.t 8) none (some (.c (.i .i64 60)))⟩,
       ⟨(some 10), none, .fa 0 (.t 1)⟩,
       ⟨none, none, .st 1 (.t 10) (.t 9)⟩])
     .skip))
   (.seq
    (.seq
     (.reg [
       ⟨(some 11), none, .fa 1 (.t 1)⟩,
       ⟨(some 12), none, .ld none (.t 11)⟩,
       ⟨(some 13), none, .len 0 (.t 12)⟩,
       ⟨(some 14), none, .bin .gtr (.t 13) (.c (.i .i64 40))⟩])
     (.ite (.t 14)
      (.reg [
        ⟨(some 15), none, .fa 1 (.t 1)⟩,
        ⟨(some 16), none, .ld none (.t 15)⟩,
        ⟨(some 17), none, .slc 3 (.t 16) none (some (.c (.i .i64 40)))⟩,
        ⟨(some 18), none, .fa 1 (.t 1)⟩,
        ⟨none, none, .st 1 (.t 18) (.t 17)⟩])
      .skip))
    (.seq
     (.reg [
       ⟨(some 19), none, .ld (some 2) (.t 1)⟩,
       ⟨none, none, .st 2 (.t 2) (.t 19)⟩])
     .ret))))
def law09_few.r : List Rr := [.cell 2 (some 2)]
abbrev law09_few.n : Nat := 20
def weld_Weld.c (mesh_Check weld_used : FuncId) : C :=
 (.seq
  (.reg [
    ⟨(some 1), none, .box (.t 0)⟩,
    ⟨(some 2), none, .alloc [.nil, .nil]⟩,
    ⟨(some 3), none, .mv (.c (.i .i64 0))⟩,
    ⟨(some 4), none, .mv (.c (.i .i64 0))⟩])
  (.seq
   (.seq
    (.reg [
      ⟨(some 12), none, .ld (some 2) (.t 1)⟩,
      ⟨(some 13), none, .call mesh_Check [(.t 12)]⟩,
      ⟨(some 5), none, .mv (.t 13)⟩])
    (.seq
     (.reg [
       ⟨(some 14), none, .mv (.t 5)⟩,
       ⟨(some 15), none, .bin .neq (.t 14) (.c (.i .i64 0))⟩])
     (.ite (.t 15)
      (.seq
       (.reg [
         ⟨(some 16), none, .build [.nil, .nil] []⟩,
         ⟨(some 17), none, .mv (.t 5)⟩,
         ⟨none, none, .st 2 (.t 2) (.t 16)⟩,
         ⟨(some 3), none, .mv (.c (.i .i64 0))⟩,
         ⟨(some 4), none, .mv (.t 17)⟩])
       .ret)
      .skip)))
   (.seq
    (.reg [
      ⟨(some 18), none, .ld (some 2) (.t 1)⟩,
      ⟨(some 19), none, .call weld_used [(.t 18)]⟩,
      ⟨(some 20), none, .build [.nil, .nil] [(0, 1, (.t 19))]⟩,
      ⟨(some 6), none, .alloc [.nil, .nil]⟩,
      ⟨none, none, .st 2 (.t 6) (.t 20)⟩])
    (.seq
     (.reg [
       ⟨(some 21), none, .fa 0 (.t 6)⟩,
       ⟨(some 22), none, .ld none (.t 21)⟩,
       ⟨(some 23), none, .len 0 (.t 22)⟩,
       ⟨(some 24), none, .mkm (some (.t 23))⟩,
       ⟨(some 7), none, .mv (.t 24)⟩])
     (.seq
      (.seq
       (.reg [
         ⟨(some 25), none, .fa 0 (.t 6)⟩,
         ⟨(some 26), none, .ld none (.t 25)⟩,
         ⟨(some 27), none, .len 0 (.t 26)⟩,
         ⟨(some 28), none, .mv (.c (.i .i64 0))⟩])
       (.blk 0
        (.loop
         (.seq
          (.reg [
            ⟨(some 29), none, .bin .lss (.t 28) (.t 27)⟩])
          (.seq
           (.ite (.t 29)
            .skip
            (.exit 0))
           (.seq
            (.blk 1
             (.seq
              (.reg [
                ⟨(some 30), none, .mv (.t 28)⟩,
                ⟨(some 31), none, .ia 3 (.t 26) (.t 28)⟩,
                ⟨(some 32), none, .ld (some 3) (.t 31)⟩,
                ⟨(some 9), none, .alloc [(.i .i64 0), (.i .i64 0), (.i .i64 0)]⟩,
                ⟨(some 8), none, .mv (.t 30)⟩,
                ⟨none, none, .st 3 (.t 9) (.t 32)⟩])
              (.reg [
                ⟨(some 33), none, .mv (.t 7)⟩,
                ⟨(some 34), none, .ld (some 3) (.t 9)⟩,
                ⟨(some 35), none, .mv (.t 8)⟩,
                ⟨none, none, .mup [1, 1, 1] (.t 33) (.t 34) (.t 35)⟩])))
            (.reg [
              ⟨(some 36), none, .bin .add (.t 28) (.c (.i .i64 1))⟩,
              ⟨(some 28), none, .mv (.t 36)⟩])))))))
      (.seq
       (.seq
        (.reg [
          ⟨(some 37), none, .fa 1 (.t 1)⟩,
          ⟨(some 38), none, .ld none (.t 37)⟩,
          ⟨(some 39), none, .len 0 (.t 38)⟩,
          ⟨(some 40), none, .mv (.c (.i .i64 0))⟩])
        (.blk 2
         (.loop
          (.seq
           (.reg [
             ⟨(some 41), none, .bin .lss (.t 40) (.t 39)⟩])
           (.seq
            (.ite (.t 41)
             .skip
             (.exit 2))
            (.seq
             (.blk 3
              (.seq
               (.reg [
                 ⟨(some 42), none, .ia 3 (.t 38) (.t 40)⟩,
                 ⟨(some 43), none, .ld (some 3) (.t 42)⟩,
                 ⟨(some 11), none, .alloc [(.i .i64 0), (.i .i64 0), (.i .i64 0)]⟩,
                 ⟨none, none, .st 3 (.t 11) (.t 43)⟩])
               (.drw [
                 ⟨(some 44), none, .fa 1 (.t 6)⟩,
                 ⟨(some 45), none, .ld none (.t 44)⟩,
                 ⟨(some 46), none, .mv (.t 7)⟩,
                 ⟨(some 47), none, .fa 0 (.t 1)⟩,
                 ⟨(some 48), none, .ld none (.t 47)⟩,
                 ⟨(some 49), none, .fa 0 (.t 11)⟩,
                 ⟨(some 50), none, .ld none (.t 49)⟩,
                 ⟨(some 51), none, .ia 3 (.t 48) (.t 50)⟩,
                 ⟨(some 52), none, .ld (some 3) (.t 51)⟩,
                 ⟨(some 53), none, .lk [1, 1, 1] (.i .i64 0) false (.t 46) (.t 52)⟩,
                 ⟨(some 54), none, .mv (.t 7)⟩,
                 ⟨(some 55), none, .fa 0 (.t 1)⟩,
                 ⟨(some 56), none, .ld none (.t 55)⟩,
                 ⟨(some 57), none, .fa 1 (.t 11)⟩,
                 ⟨(some 58), none, .ld none (.t 57)⟩,
                 ⟨(some 59), none, .ia 3 (.t 56) (.t 58)⟩,
                 ⟨(some 60), none, .ld (some 3) (.t 59)⟩,
                 ⟨(some 61), none, .lk [1, 1, 1] (.i .i64 0) false (.t 54) (.t 60)⟩,
                 ⟨(some 62), none, .mv (.t 7)⟩,
                 ⟨(some 63), none, .fa 0 (.t 1)⟩,
                 ⟨(some 64), none, .ld none (.t 63)⟩,
                 ⟨(some 65), none, .fa 2 (.t 11)⟩,
                 ⟨(some 66), none, .ld none (.t 65)⟩,
                 ⟨(some 67), none, .ia 3 (.t 64) (.t 66)⟩,
                 ⟨(some 68), none, .ld (some 3) (.t 67)⟩,
                 ⟨(some 69), none, .lk [1, 1, 1] (.i .i64 0) false (.t 62) (.t 68)⟩,
                 ⟨(some 70), none, .build [(.i .i64 0), (.i .i64 0), (.i .i64 0)] [(0, 1, (.t 53)), (1, 1, (.t 61)), (2, 1, (.t 69))]⟩,
                 ⟨(some 71), none, .bsi 3 1 [(.i .i64 0), (.i .i64 0), (.i .i64 0)] [(0, (.t 70))]⟩,
                 ⟨(some 72), none, .app 3 24 (.t 45) (.t 71)⟩,
                 ⟨(some 73), none, .fa 1 (.t 6)⟩,
                 ⟨none, none, .st 1 (.t 73) (.t 72)⟩] [])))
             (.reg [
               ⟨(some 74), none, .bin .add (.t 40) (.c (.i .i64 1))⟩,
               ⟨(some 40), none, .mv (.t 74)⟩])))))))
       (.seq
        (.drw [
          ⟨(some 75), none, .ld (some 2) (.t 6)⟩,
          ⟨(some 76), none, .fa 0 (.t 1)⟩,
          ⟨(some 77), none, .ld none (.t 76)⟩,
          ⟨(some 78), none, .len 0 (.t 77)⟩,
          ⟨(some 79), none, .fa 0 (.t 6)⟩,
          ⟨(some 80), none, .ld none (.t 79)⟩,
          ⟨(some 81), none, .len 0 (.t 80)⟩,
          ⟨(some 82), none, .bin .sub (.t 78) (.t 81)⟩,
          ⟨none, none, .st 2 (.t 2) (.t 75)⟩,
          ⟨(some 3), none, .mv (.t 82)⟩,
          ⟨(some 4), none, .mv (.c (.i .i64 0))⟩] [[], [], [], [], [], [], [], [], [1, 2, 3, 4, 5, 6], [], []])
        .ret)))))))
def weld_Weld.r : List Rr := [.cell 2 (some 2), .tmp 3, .tmp 4]
abbrev weld_Weld.n : Nat := 83
def ref09_Weld.c (ref07_Check ref09_find ref09_used ref09_insert : FuncId) : C :=
 (.seq
  (.reg [
    ⟨(some 1), none, .box (.t 0)⟩,
    ⟨(some 2), none, .alloc [.nil, .nil]⟩,
    ⟨(some 3), none, .mv (.c (.i .i64 0))⟩,
    ⟨(some 4), none, .mv (.c (.i .i64 0))⟩])
  (.seq
   (.reg [
     ⟨(some 11), none, .ld (some 2) (.t 1)⟩,
     ⟨(some 12), none, .call ref07_Check [(.t 11)]⟩,
     ⟨(some 5), none, .mv (.t 12)⟩])
   (.seq
    (.seq
     (.reg [
       ⟨(some 13), none, .mv (.t 5)⟩,
       ⟨(some 14), none, .bin .neq (.t 13) (.c (.i .i64 0))⟩])
     (.ite (.t 14)
      (.seq
       (.reg [
         ⟨(some 15), none, .build [.nil, .nil] []⟩,
         ⟨(some 16), none, .mv (.t 5)⟩,
         ⟨none, none, .st 2 (.t 2) (.t 15)⟩,
         ⟨(some 3), none, .mv (.c (.i .i64 0))⟩,
         ⟨(some 4), none, .mv (.t 16)⟩])
       .ret)
      .skip))
    (.seq
     (.reg [
       ⟨(some 6), none, .mv (.c .nil)⟩])
     (.seq
      (.seq
       (.reg [
         ⟨(some 7), none, .mv (.c (.i .i64 0))⟩])
       (.blk 0
        (.loop
         (.seq
          (.seq
           (.reg [
             ⟨(some 17), none, .mv (.t 7)⟩,
             ⟨(some 18), none, .fa 0 (.t 1)⟩,
             ⟨(some 19), none, .ld none (.t 18)⟩,
             ⟨(some 20), none, .len 0 (.t 19)⟩,
             ⟨(some 21), none, .bin .lss (.t 17) (.t 20)⟩])
           (.ite (.t 21)
            .skip
            (.exit 0)))
          (.seq
           (.blk 1
            (.seq
             (.drw [
               ⟨(some 24), none, .mv (.t 6)⟩,
               ⟨(some 25), none, .fa 0 (.t 1)⟩,
               ⟨(some 26), none, .ld none (.t 25)⟩,
               ⟨(some 27), none, .mv (.t 7)⟩,
               ⟨(some 28), none, .ia 3 (.t 26) (.t 27)⟩,
               ⟨(some 29), none, .ld (some 3) (.t 28)⟩,
               ⟨(some 30), none, .call ref09_find [(.t 24), (.t 29)]⟩,
               ⟨(some 31), none, .bin .lss (.t 30) (.c (.i .i64 0))⟩,
               ⟨(some 32), none, .mv (.t 31)⟩,
               ⟨(some 33), (some (32, true)), .ld (some 2) (.t 1)⟩,
               ⟨(some 34), (some (32, true)), .fa 0 (.t 1)⟩,
               ⟨(some 35), (some (32, true)), .ld none (.t 34)⟩,
               ⟨(some 36), (some (32, true)), .mv (.t 7)⟩,
               ⟨(some 37), (some (32, true)), .ia 3 (.t 35) (.t 36)⟩,
               ⟨(some 38), (some (32, true)), .ld (some 3) (.t 37)⟩,
               ⟨(some 39), (some (32, true)), .call ref09_used [(.t 33), (.t 38)]⟩,
               ⟨(some 40), none, .pick (.t 32) (.t 39) (.c (.b false))⟩] [])
             (.ite (.t 40)
              (.reg [
                ⟨(some 41), none, .mv (.t 6)⟩,
                ⟨(some 42), none, .fa 0 (.t 1)⟩,
                ⟨(some 43), none, .ld none (.t 42)⟩,
                ⟨(some 44), none, .mv (.t 7)⟩,
                ⟨(some 45), none, .ia 3 (.t 43) (.t 44)⟩,
                ⟨(some 46), none, .ld (some 3) (.t 45)⟩,
                ⟨(some 47), none, .call ref09_insert [(.t 41), (.t 46)]⟩,
                ⟨(some 6), none, .mv (.t 47)⟩])
              .skip)))
           (.reg [
             ⟨(some 22), none, .mv (.t 7)⟩,
             ⟨(some 23), none, .bin .add (.t 22) (.c (.i .i64 1))⟩,
             ⟨(some 7), none, .mv (.t 23)⟩]))))))
      (.seq
       (.reg [
         ⟨(some 8), none, .mv (.c .nil)⟩])
       (.seq
        (.seq
         (.reg [
           ⟨(some 9), none, .mv (.c (.i .i64 0))⟩])
         (.blk 2
          (.loop
           (.seq
            (.seq
             (.reg [
               ⟨(some 48), none, .mv (.t 9)⟩,
               ⟨(some 49), none, .fa 1 (.t 1)⟩,
               ⟨(some 50), none, .ld none (.t 49)⟩,
               ⟨(some 51), none, .len 0 (.t 50)⟩,
               ⟨(some 52), none, .bin .lss (.t 48) (.t 51)⟩])
             (.ite (.t 52)
              .skip
              (.exit 2)))
            (.seq
             (.blk 3
              (.seq
               (.reg [
                 ⟨(some 55), none, .fa 1 (.t 1)⟩,
                 ⟨(some 56), none, .ld none (.t 55)⟩,
                 ⟨(some 57), none, .mv (.t 9)⟩,
                 ⟨(some 58), none, .ia 3 (.t 56) (.t 57)⟩,
                 ⟨(some 59), none, .ld (some 3) (.t 58)⟩,
                 ⟨(some 10), none, .alloc [(.i .i64 0), (.i .i64 0), (.i .i64 0)]⟩,
                 ⟨none, none, .st 3 (.t 10) (.t 59)⟩])
               (.drw [
                 ⟨(some 60), none, .mv (.t 8)⟩,
                 ⟨(some 61), none, .mv (.t 6)⟩,
                 ⟨(some 62), none, .fa 0 (.t 1)⟩,
                 ⟨(some 63), none, .ld none (.t 62)⟩,
                 ⟨(some 64), none, .fa 0 (.t 10)⟩,
                 ⟨(some 65), none, .ld none (.t 64)⟩,
                 ⟨(some 66), none, .ia 3 (.t 63) (.t 65)⟩,
                 ⟨(some 67), none, .ld (some 3) (.t 66)⟩,
                 ⟨(some 68), none, .call ref09_find [(.t 61), (.t 67)]⟩,
                 ⟨(some 69), none, .mv (.t 6)⟩,
                 ⟨(some 70), none, .fa 0 (.t 1)⟩,
                 ⟨(some 71), none, .ld none (.t 70)⟩,
                 ⟨(some 72), none, .fa 1 (.t 10)⟩,
                 ⟨(some 73), none, .ld none (.t 72)⟩,
                 ⟨(some 74), none, .ia 3 (.t 71) (.t 73)⟩,
                 ⟨(some 75), none, .ld (some 3) (.t 74)⟩,
                 ⟨(some 76), none, .call ref09_find [(.t 69), (.t 75)]⟩,
                 ⟨(some 77), none, .mv (.t 6)⟩,
                 ⟨(some 78), none, .fa 0 (.t 1)⟩,
                 ⟨(some 79), none, .ld none (.t 78)⟩,
                 ⟨(some 80), none, .fa 2 (.t 10)⟩,
                 ⟨(some 81), none, .ld none (.t 80)⟩,
                 ⟨(some 82), none, .ia 3 (.t 79) (.t 81)⟩,
                 ⟨(some 83), none, .ld (some 3) (.t 82)⟩,
                 ⟨(some 84), none, .call ref09_find [(.t 77), (.t 83)]⟩,
                 ⟨(some 85), none, .build [(.i .i64 0), (.i .i64 0), (.i .i64 0)] [(0, 1, (.t 68)), (1, 1, (.t 76)), (2, 1, (.t 84))]⟩,
                 ⟨(some 86), none, .bsi 3 1 [(.i .i64 0), (.i .i64 0), (.i .i64 0)] [(0, (.t 85))]⟩,
                 ⟨(some 87), none, .app 3 24 (.t 60) (.t 86)⟩,
                 ⟨(some 8), none, .mv (.t 87)⟩] [[], [], [], [], [], [], [], [], [], [], [8], [8], [8], [8], [8], [8], [], [], [8, 16], [8, 16], [8, 16], [8, 16], [8, 16], [8, 16], [], [], [], [], []])))
             (.reg [
               ⟨(some 53), none, .mv (.t 9)⟩,
               ⟨(some 54), none, .bin .add (.t 53) (.c (.i .i64 1))⟩,
               ⟨(some 9), none, .mv (.t 54)⟩]))))))
        (.seq
         (.drw [
           ⟨(some 88), none, .mv (.t 6)⟩,
           ⟨(some 89), none, .mv (.t 8)⟩,
           ⟨(some 90), none, .build [.nil, .nil] [(0, 1, (.t 88)), (1, 1, (.t 89))]⟩,
           ⟨(some 91), none, .fa 0 (.t 1)⟩,
           ⟨(some 92), none, .ld none (.t 91)⟩,
           ⟨(some 93), none, .len 0 (.t 92)⟩,
           ⟨(some 94), none, .mv (.t 6)⟩,
           ⟨(some 95), none, .len 0 (.t 94)⟩,
           ⟨(some 96), none, .bin .sub (.t 93) (.t 95)⟩,
           ⟨none, none, .st 2 (.t 2) (.t 90)⟩,
           ⟨(some 3), none, .mv (.t 96)⟩,
           ⟨(some 4), none, .mv (.c (.i .i64 0))⟩] [[], [], [], [], [], [], [], [], [], [3, 4, 5, 7], [], []])
         .ret))))))))
def ref09_Weld.r : List Rr := [.cell 2 (some 2), .tmp 3, .tmp 4]
abbrev ref09_Weld.n : Nat := 97
def law09_same.c : C :=
 (.seq
  (.reg [
    ⟨(some 2), none, .box (.t 0)⟩,
    ⟨(some 3), none, .box (.t 1)⟩,
    ⟨(some 4), none, .mv (.c (.b false))⟩])
  (.seq
   (.seq
    (.reg [
      ⟨(some 7), none, .fa 0 (.t 2)⟩,
      ⟨(some 8), none, .ld none (.t 7)⟩,
      ⟨(some 9), none, .len 0 (.t 8)⟩,
      ⟨(some 10), none, .fa 0 (.t 3)⟩,
      ⟨(some 11), none, .ld none (.t 10)⟩,
      ⟨(some 12), none, .len 0 (.t 11)⟩,
      ⟨(some 13), none, .bin .neq (.t 9) (.t 12)⟩,
      ⟨(some 14), none, .mv (.t 13)⟩,
      ⟨(some 15), (some (14, false)), .fa 1 (.t 2)⟩,
      ⟨(some 16), (some (14, false)), .ld none (.t 15)⟩,
      ⟨(some 17), (some (14, false)), .len 0 (.t 16)⟩,
      ⟨(some 18), (some (14, false)), .fa 1 (.t 3)⟩,
      ⟨(some 19), (some (14, false)), .ld none (.t 18)⟩,
      ⟨(some 20), (some (14, false)), .len 0 (.t 19)⟩,
      ⟨(some 21), (some (14, false)), .bin .neq (.t 17) (.t 20)⟩,
      ⟨(some 22), none, .pick (.t 14) (.c (.b true)) (.t 21)⟩])
    (.ite (.t 22)
     (.seq
      (.reg [
        ⟨(some 4), none, .mv (.c (.b false))⟩])
      .ret)
     .skip))
   (.seq
    (.seq
     (.reg [
       ⟨(some 5), none, .mv (.c (.i .i64 0))⟩])
     (.blk 0
      (.loop
       (.seq
        (.seq
         (.reg [
           ⟨(some 23), none, .mv (.t 5)⟩,
           ⟨(some 24), none, .fa 0 (.t 2)⟩,
           ⟨(some 25), none, .ld none (.t 24)⟩,
           ⟨(some 26), none, .len 0 (.t 25)⟩,
           ⟨(some 27), none, .bin .lss (.t 23) (.t 26)⟩])
         (.ite (.t 27)
          .skip
          (.exit 0)))
        (.seq
         (.blk 1
          (.seq
           (.drw [
             ⟨(some 30), none, .fa 0 (.t 2)⟩,
             ⟨(some 31), none, .ld none (.t 30)⟩,
             ⟨(some 32), none, .mv (.t 5)⟩,
             ⟨(some 33), none, .ia 3 (.t 31) (.t 32)⟩,
             ⟨(some 34), none, .ld (some 3) (.t 33)⟩,
             ⟨(some 35), none, .fa 0 (.t 3)⟩,
             ⟨(some 36), none, .ld none (.t 35)⟩,
             ⟨(some 37), none, .mv (.t 5)⟩,
             ⟨(some 38), none, .ia 3 (.t 36) (.t 37)⟩,
             ⟨(some 39), none, .ld (some 3) (.t 38)⟩,
             ⟨(some 40), none, .eqa [1, 1, 1] true (.t 34) (.t 39)⟩] [])
           (.ite (.t 40)
            (.seq
             (.reg [
               ⟨(some 4), none, .mv (.c (.b false))⟩])
             .ret)
            .skip)))
         (.reg [
           ⟨(some 28), none, .mv (.t 5)⟩,
           ⟨(some 29), none, .bin .add (.t 28) (.c (.i .i64 1))⟩,
           ⟨(some 5), none, .mv (.t 29)⟩]))))))
    (.seq
     (.seq
      (.reg [
        ⟨(some 6), none, .mv (.c (.i .i64 0))⟩])
      (.blk 2
       (.loop
        (.seq
         (.seq
          (.reg [
            ⟨(some 41), none, .mv (.t 6)⟩,
            ⟨(some 42), none, .fa 1 (.t 2)⟩,
            ⟨(some 43), none, .ld none (.t 42)⟩,
            ⟨(some 44), none, .len 0 (.t 43)⟩,
            ⟨(some 45), none, .bin .lss (.t 41) (.t 44)⟩])
          (.ite (.t 45)
           .skip
           (.exit 2)))
         (.seq
          (.blk 3
           (.seq
            (.drw [
              ⟨(some 48), none, .fa 1 (.t 2)⟩,
              ⟨(some 49), none, .ld none (.t 48)⟩,
              ⟨(some 50), none, .mv (.t 6)⟩,
              ⟨(some 51), none, .ia 3 (.t 49) (.t 50)⟩,
              ⟨(some 52), none, .ld (some 3) (.t 51)⟩,
              ⟨(some 53), none, .fa 1 (.t 3)⟩,
              ⟨(some 54), none, .ld none (.t 53)⟩,
              ⟨(some 55), none, .mv (.t 6)⟩,
              ⟨(some 56), none, .ia 3 (.t 54) (.t 55)⟩,
              ⟨(some 57), none, .ld (some 3) (.t 56)⟩,
              ⟨(some 58), none, .eqa [1, 1, 1] true (.t 52) (.t 57)⟩] [])
            (.ite (.t 58)
             (.seq
              (.reg [
                ⟨(some 4), none, .mv (.c (.b false))⟩])
              .ret)
             .skip)))
          (.reg [
            ⟨(some 46), none, .mv (.t 6)⟩,
            ⟨(some 47), none, .bin .add (.t 46) (.c (.i .i64 1))⟩,
            ⟨(some 6), none, .mv (.t 47)⟩]))))))
     (.seq
      (.reg [
        ⟨(some 4), none, .mv (.c (.b true))⟩])
      .ret)))))
def law09_same.r : List Rr := [.tmp 4]
abbrev law09_same.n : Nat := 59
def law09_awake.c (weld_Weld : FuncId) : C :=
 (.seq
  (.reg [
    ⟨(some 0), none, .mv (.c (.b false))⟩])
  (.seq
   (.reg [
     ⟨(some 5), none, .build [(.i .i64 0), (.i .i64 0), (.i .i64 0)] [(0, 1, (.c (.i .i64 1)))]⟩,
     ⟨(some 6), none, .build [(.i .i64 0), (.i .i64 0), (.i .i64 0)] []⟩,
     ⟨(some 7), none, .build [(.i .i64 0), (.i .i64 0), (.i .i64 0)] [(1, 1, (.c (.i .i64 1)))]⟩,
     ⟨(some 8), none, .build [(.i .i64 0), (.i .i64 0), (.i .i64 0)] []⟩,
     ⟨(some 9), none, .build [(.i .i64 0), (.i .i64 0), (.i .i64 0)] [(0, 1, (.c (.i .i64 9))), (1, 1, (.c (.i .i64 9))), (2, 1, (.c (.i .i64 9)))]⟩,
     ⟨(some 10), none, .bso 3 5 [(.i .i64 0), (.i .i64 0), (.i .i64 0)] [(0, (.t 5)), (1, (.t 6)), (2, (.t 7)), (3, (.t 8)), (4, (.t 9))]⟩,
     ⟨(some 11), none, .build [(.i .i64 0), (.i .i64 0), (.i .i64 0)] [(0, 1, (.c (.i .i64 0))), (1, 1, (.c (.i .i64 2))), (2, 1, (.c (.i .i64 3)))]⟩,
     ⟨(some 12), none, .bso 3 1 [(.i .i64 0), (.i .i64 0), (.i .i64 0)] [(0, (.t 11))]⟩,
     ⟨(some 13), none, .build [.nil, .nil] [(0, 1, (.t 10)), (1, 1, (.t 12))]⟩,
     ⟨(some 1), none, .alloc [.nil, .nil]⟩,
     ⟨none, none, .st 2 (.t 1) (.t 13)⟩])
   (.seq
    (.reg [
      ⟨(some 15), none, .ld (some 2) (.t 1)⟩,
      ⟨(some 16), none, .call weld_Weld [(.t 15)]⟩,
      ⟨(some 14), none, .mv (.t 16)⟩,
      ⟨(some 17), none, .ext (.t 14) 0⟩,
      ⟨(some 18), none, .ext (.t 14) 1⟩,
      ⟨(some 19), none, .ext (.t 14) 2⟩,
      ⟨(some 2), none, .alloc [.nil, .nil]⟩,
      ⟨none, none, .st 2 (.t 2) (.t 17)⟩,
      ⟨(some 3), none, .mv (.t 18)⟩,
      ⟨(some 4), none, .mv (.t 19)⟩])
    (.seq
     (.reg [
       ⟨(some 20), none, .mv (.t 4)⟩,
       ⟨(some 21), none, .bin .eql (.t 20) (.c (.i .i64 0))⟩,
       ⟨(some 22), none, .mv (.t 21)⟩,
       ⟨(some 23), (some (22, true)), .mv (.t 3)⟩,
       ⟨(some 24), (some (22, true)), .bin .eql (.t 23) (.c (.i .i64 2))⟩,
       ⟨(some 25), none, .pick (.t 22) (.t 24) (.c (.b false))⟩,
       ⟨(some 26), none, .mv (.t 25)⟩,
       ⟨(some 27), (some (26, true)), .fa 0 (.t 2)⟩,
       ⟨(some 28), (some (26, true)), .ld none (.t 27)⟩,
       ⟨(some 29), (some (26, true)), .len 0 (.t 28)⟩,
       ⟨(some 30), (some (26, true)), .bin .eql (.t 29) (.c (.i .i64 3))⟩,
       ⟨(some 31), none, .pick (.t 26) (.t 30) (.c (.b false))⟩,
       ⟨(some 32), none, .mv (.t 31)⟩,
       ⟨(some 33), (some (32, true)), .fa 1 (.t 2)⟩,
       ⟨(some 34), (some (32, true)), .ld none (.t 33)⟩,
       ⟨(some 35), (some (32, true)), .len 0 (.t 34)⟩,
       ⟨(some 36), (some (32, true)), .bin .eql (.t 35) (.c (.i .i64 1))⟩,
       ⟨(some 37), none, .pick (.t 32) (.t 36) (.c (.b false))⟩,
       ⟨(some 38), none, .mv (.t 37)⟩,
       ⟨(some 39), (some (38, true)), .fa 1 (.t 2)⟩,
       ⟨(some 40), (some (38, true)), .ld none (.t 39)⟩,
       ⟨(some 41), (some (38, true)), .ia 3 (.t 40) (.c (.i .i64 0))⟩,
       ⟨(some 42), (some (38, true)), .ld (some 3) (.t 41)⟩,
       ⟨(some 43), (some (38, true)), .build [(.i .i64 0), (.i .i64 0), (.i .i64 0)] [(0, 1, (.c (.i .i64 2))), (1, 1, (.c (.i .i64 1))), (2, 1, (.c (.i .i64 0)))]⟩,
       ⟨(some 44), (some (38, true)), .eqa [1, 1, 1] false (.t 42) (.t 43)⟩,
       ⟨(some 45), none, .pick (.t 38) (.t 44) (.c (.b false))⟩,
       ⟨(some 46), none, .mv (.t 45)⟩,
       ⟨(some 47), (some (46, true)), .fa 0 (.t 2)⟩,
       ⟨(some 48), (some (46, true)), .ld none (.t 47)⟩,
       ⟨(some 49), (some (46, true)), .ia 3 (.t 48) (.c (.i .i64 2))⟩,
       ⟨(some 50), (some (46, true)), .ld (some 3) (.t 49)⟩,
       ⟨(some 51), (some (46, true)), .build [(.i .i64 0), (.i .i64 0), (.i .i64 0)] [(0, 1, (.c (.i .i64 1)))]⟩,
       ⟨(some 52), (some (46, true)), .eqa [1, 1, 1] false (.t 50) (.t 51)⟩,
       ⟨(some 53), none, .pick (.t 46) (.t 52) (.c (.b false))⟩,
       ⟨(some 0), none, .mv (.t 53)⟩])
     .ret))))
def law09_awake.r : List Rr := [.tmp 0]
abbrev law09_awake.n : Nat := 54
def ref07_Corners.c (ref07_Check : FuncId) : C :=
 (.seq
  (.reg [
    ⟨(some 2), none, .box (.t 0)⟩,
    ⟨(some 4), none, .alloc [(.i .i64 0), (.i .i64 0), (.i .i64 0)]⟩,
    ⟨(some 5), none, .alloc [(.i .i64 0), (.i .i64 0), (.i .i64 0)]⟩,
    ⟨(some 6), none, .alloc [(.i .i64 0), (.i .i64 0), (.i .i64 0)]⟩,
    ⟨(some 7), none, .mv (.c (.b false))⟩])
  (.seq
   (.seq
    (.reg [
      ⟨(some 9), none, .ld (some 2) (.t 2)⟩,
      ⟨(some 10), none, .call ref07_Check [(.t 9)]⟩,
      ⟨(some 11), none, .bin .neq (.t 10) (.c (.i .i64 0))⟩,
      ⟨(some 12), none, .mv (.t 11)⟩,
      ⟨(some 13), (some (12, false)), .mv (.t 1)⟩,
      ⟨(some 14), (some (12, false)), .bin .lss (.t 13) (.c (.i .i64 0))⟩,
      ⟨(some 15), none, .pick (.t 12) (.c (.b true)) (.t 14)⟩,
      ⟨(some 16), none, .mv (.t 15)⟩,
      ⟨(some 17), (some (16, false)), .mv (.t 1)⟩,
      ⟨(some 18), (some (16, false)), .fa 1 (.t 2)⟩,
      ⟨(some 19), (some (16, false)), .ld none (.t 18)⟩,
      ⟨(some 20), (some (16, false)), .len 0 (.t 19)⟩,
      ⟨(some 21), (some (16, false)), .bin .geq (.t 17) (.t 20)⟩,
      ⟨(some 22), none, .pick (.t 16) (.c (.b true)) (.t 21)⟩])
    (.ite (.t 22)
     (.seq
      (.reg [
        ⟨(some 23), none, .build [(.i .i64 0), (.i .i64 0), (.i .i64 0)] []⟩,
        ⟨(some 24), none, .build [(.i .i64 0), (.i .i64 0), (.i .i64 0)] []⟩,
        ⟨(some 25), none, .build [(.i .i64 0), (.i .i64 0), (.i .i64 0)] []⟩,
        ⟨none, none, .st 3 (.t 4) (.t 23)⟩,
        ⟨none, none, .st 3 (.t 5) (.t 24)⟩,
        ⟨none, none, .st 3 (.t 6) (.t 25)⟩,
        ⟨(some 7), none, .mv (.c (.b false))⟩])
      .ret)
     .skip))
   (.seq
    (.reg [
      ⟨(some 26), none, .fa 1 (.t 2)⟩,
      ⟨(some 27), none, .ld none (.t 26)⟩,
      ⟨(some 28), none, .mv (.t 1)⟩,
      ⟨(some 29), none, .ia 3 (.t 27) (.t 28)⟩,
      ⟨(some 30), none, .ld (some 3) (.t 29)⟩,
      ⟨(some 8), none, .alloc [(.i .i64 0), (.i .i64 0), (.i .i64 0)]⟩,
      ⟨none, none, .st 3 (.t 8) (.t 30)⟩])
    (.seq
     (.drw [
       ⟨(some 31), none, .fa 0 (.t 2)⟩,
       ⟨(some 32), none, .ld none (.t 31)⟩,
       ⟨(some 33), none, .fa 0 (.t 8)⟩,
       ⟨(some 34), none, .ld none (.t 33)⟩,
       ⟨(some 35), none, .ia 3 (.t 32) (.t 34)⟩,
       ⟨(some 36), none, .ld (some 3) (.t 35)⟩,
       ⟨(some 37), none, .fa 0 (.t 2)⟩,
       ⟨(some 38), none, .ld none (.t 37)⟩,
       ⟨(some 39), none, .fa 1 (.t 8)⟩,
       ⟨(some 40), none, .ld none (.t 39)⟩,
       ⟨(some 41), none, .ia 3 (.t 38) (.t 40)⟩,
       ⟨(some 42), none, .ld (some 3) (.t 41)⟩,
       ⟨(some 43), none, .fa 0 (.t 2)⟩,
       ⟨(some 44), none, .ld none (.t 43)⟩,
       ⟨(some 45), none, .fa 2 (.t 8)⟩,
       ⟨(some 46), none, .ld none (.t 45)⟩,
       ⟨(some 47), none, .ia 3 (.t 44) (.t 46)⟩,
       ⟨(some 48), none, .ld (some 3) (.t 47)⟩,
       ⟨none, none, .st 3 (.t 4) (.t 36)⟩,
       ⟨none, none, .st 3 (.t 5) (.t 42)⟩,
       ⟨none, none, .st 3 (.t 6) (.t 48)⟩,
       ⟨(some 7), none, .mv (.c (.b true))⟩] [[], [], [], [], [], [], [], [], [], [], [], [], [], [], [], [], [], [], [6, 7, 8, 9, 10, 11, 12, 13, 14, 15, 16, 17], [12, 13, 14, 15, 16, 17], [], []])
     .ret))))
def ref07_Corners.r : List Rr := [.cell 4 (some 3), .cell 5 (some 3), .cell 6 (some 3), .tmp 7]
abbrev ref07_Corners.n : Nat := 49
def ref04_Less.c : C :=
 (.seq
  (.reg [
    ⟨(some 2), none, .box (.t 0)⟩,
    ⟨(some 3), none, .box (.t 1)⟩,
    ⟨(some 4), none, .mv (.c (.b false))⟩])
  (.seq
   (.seq
    (.reg [
      ⟨(some 5), none, .fa 0 (.t 2)⟩,
      ⟨(some 6), none, .ld none (.t 5)⟩,
      ⟨(some 7), none, .fa 0 (.t 3)⟩,
      ⟨(some 8), none, .ld none (.t 7)⟩,
      ⟨(some 9), none, .bin .neq (.t 6) (.t 8)⟩])
    (.ite (.t 9)
     (.seq
      (.reg [
        ⟨(some 10), none, .fa 0 (.t 2)⟩,
        ⟨(some 11), none, .ld none (.t 10)⟩,
        ⟨(some 12), none, .fa 0 (.t 3)⟩,
        ⟨(some 13), none, .ld none (.t 12)⟩,
        ⟨(some 14), none, .bin .lss (.t 11) (.t 13)⟩,
        ⟨(some 4), none, .mv (.t 14)⟩])
      .ret)
     .skip))
   (.seq
    (.seq
     (.reg [
       ⟨(some 15), none, .fa 1 (.t 2)⟩,
       ⟨(some 16), none, .ld none (.t 15)⟩,
       ⟨(some 17), none, .fa 1 (.t 3)⟩,
       ⟨(some 18), none, .ld none (.t 17)⟩,
       ⟨(some 19), none, .bin .neq (.t 16) (.t 18)⟩])
     (.ite (.t 19)
      (.seq
       (.reg [
         ⟨(some 20), none, .fa 1 (.t 2)⟩,
         ⟨(some 21), none, .ld none (.t 20)⟩,
         ⟨(some 22), none, .fa 1 (.t 3)⟩,
         ⟨(some 23), none, .ld none (.t 22)⟩,
         ⟨(some 24), none, .bin .lss (.t 21) (.t 23)⟩,
         ⟨(some 4), none, .mv (.t 24)⟩])
       .ret)
      .skip))
    (.seq
     (.reg [
       ⟨(some 25), none, .fa 2 (.t 2)⟩,
       ⟨(some 26), none, .ld none (.t 25)⟩,
       ⟨(some 27), none, .fa 2 (.t 3)⟩,
       ⟨(some 28), none, .ld none (.t 27)⟩,
       ⟨(some 29), none, .bin .lss (.t 26) (.t 28)⟩,
       ⟨(some 4), none, .mv (.t 29)⟩])
     .ret))))
def ref04_Less.r : List Rr := [.tmp 4]
abbrev ref04_Less.n : Nat := 30
def weld_Clean.c (mesh_Check slices_Clone_api_Vec_api_Vec weld_turned vec_Collinear : FuncId) : C :=
 (.seq
  (.reg [
    ⟨(some 1), none, .box (.t 0)⟩,
    ⟨(some 2), none, .alloc [.nil, .nil]⟩,
    ⟨(some 3), none, .mv (.c (.i .i64 0))⟩,
    ⟨(some 4), none, .mv (.c (.i .i64 0))⟩,
    ⟨(some 5), none, .mv (.c (.i .i64 0))⟩])
  (.seq
   (.seq
    (.reg [
      ⟨(some 14), none, .ld (some 2) (.t 1)⟩,
      ⟨(some 15), none, .call mesh_Check [(.t 14)]⟩,
      ⟨(some 6), none, .mv (.t 15)⟩])
    (.seq
     (.reg [
       ⟨(some 16), none, .mv (.t 6)⟩,
       ⟨(some 17), none, .bin .neq (.t 16) (.c (.i .i64 0))⟩])
     (.ite (.t 17)
      (.seq
       (.reg [
         ⟨(some 18), none, .build [.nil, .nil] []⟩,
         ⟨(some 19), none, .mv (.t 6)⟩,
         ⟨none, none, .st 2 (.t 2) (.t 18)⟩,
         ⟨(some 3), none, .mv (.c (.i .i64 0))⟩,
         ⟨(some 4), none, .mv (.c (.i .i64 0))⟩,
         ⟨(some 5), none, .mv (.t 19)⟩])
       .ret)
      .skip)))
   (.seq
    (.reg [
      ⟨(some 20), none, .fa 0 (.t 1)⟩,
      ⟨(some 21), none, .ld none (.t 20)⟩,
      ⟨(some 22), none, .call slices_Clone_api_Vec_api_Vec [(.t 21)]⟩,
      ⟨(some 23), none, .build [.nil, .nil] [(0, 1, (.t 22))]⟩,
      ⟨(some 7), none, .alloc [.nil, .nil]⟩,
      ⟨none, none, .st 2 (.t 7) (.t 23)⟩])
    (.seq
     (.reg [
       ⟨(some 24), none, .mkm none⟩,
       ⟨(some 8), none, .mv (.t 24)⟩])
     (.seq
      (.reg [
        ⟨(some 9), none, .mv (.c (.i .i64 0))⟩,
        ⟨(some 10), none, .mv (.c (.i .i64 0))⟩])
      (.seq
       (.seq
        (.reg [
          ⟨(some 25), none, .fa 1 (.t 1)⟩,
          ⟨(some 26), none, .ld none (.t 25)⟩,
          ⟨(some 27), none, .len 0 (.t 26)⟩,
          ⟨(some 28), none, .mv (.c (.i .i64 0))⟩])
        (.blk 0
         (.loop
          (.seq
           (.reg [
             ⟨(some 29), none, .bin .lss (.t 28) (.t 27)⟩])
           (.seq
            (.ite (.t 29)
             .skip
             (.exit 0))
            (.seq
             (.blk 1
              (.seq
               (.reg [
                 ⟨(some 30), none, .ia 3 (.t 26) (.t 28)⟩,
                 ⟨(some 31), none, .ld (some 3) (.t 30)⟩,
                 ⟨(some 12), none, .alloc [(.i .i64 0), (.i .i64 0), (.i .i64 0)]⟩,
                 ⟨none, none, .st 3 (.t 12) (.t 31)⟩])
               (.seq
                (.reg [
                  ⟨(some 32), none, .ld (some 3) (.t 12)⟩,
                  ⟨(some 33), none, .call weld_turned [(.t 32)]⟩,
                  ⟨(some 13), none, .alloc [(.i .i64 0), (.i .i64 0), (.i .i64 0)]⟩,
                  ⟨none, none, .st 3 (.t 13) (.t 33)⟩])
                (.blk 2
                 (.seq
                  (.drw [
                    ⟨(some 43), none, .fa 0 (.t 1)⟩,
                    ⟨(some 44), none, .ld none (.t 43)⟩,
                    ⟨(some 45), none, .fa 0 (.t 12)⟩,
                    ⟨(some 46), none, .ld none (.t 45)⟩,
                    ⟨(some 47), none, .ia 3 (.t 44) (.t 46)⟩,
                    ⟨(some 48), none, .ld (some 3) (.t 47)⟩,
                    ⟨(some 49), none, .fa 0 (.t 1)⟩,
                    ⟨(some 50), none, .ld none (.t 49)⟩,
                    ⟨(some 51), none, .fa 1 (.t 12)⟩,
                    ⟨(some 52), none, .ld none (.t 51)⟩,
                    ⟨(some 53), none, .ia 3 (.t 50) (.t 52)⟩,
                    ⟨(some 54), none, .ld (some 3) (.t 53)⟩,
                    ⟨(some 55), none, .fa 0 (.t 1)⟩,
                    ⟨(some 56), none, .ld none (.t 55)⟩,
                    ⟨(some 57), none, .fa 2 (.t 12)⟩,
                    ⟨(some 58), none, .ld none (.t 57)⟩,
                    ⟨(some 59), none, .ia 3 (.t 56) (.t 58)⟩,
                    ⟨(some 60), none, .ld (some 3) (.t 59)⟩,
                    ⟨(some 61), none, .call vec_Collinear [(.t 48), (.t 54), (.t 60)]⟩,
                    ⟨(some 42), none, .mv (.t 61)⟩] [])
                  (.ite (.t 42)
                   (.reg [
                     ⟨(some 62), none, .mv (.t 9)⟩,
                     ⟨(some 63), none, .bin .add (.t 62) (.c (.i .i64 1))⟩,
                     ⟨(some 9), none, .mv (.t 63)⟩])
                   (.seq
                    (.reg [
                      ⟨(some 65), none, .mv (.t 8)⟩,
                      ⟨(some 66), none, .ld (some 3) (.t 13)⟩,
                      ⟨(some 67), none, .lk [1, 1, 1] (.b false) false (.t 65) (.t 66)⟩,
                      ⟨(some 64), none, .mv (.t 67)⟩])
                    (.ite (.t 64)
                     (.reg [
                       ⟨(some 68), none, .mv (.t 10)⟩,
                       ⟨(some 69), none, .bin .add (.t 68) (.c (.i .i64 1))⟩,
                       ⟨(some 10), none, .mv (.t 69)⟩])
                     (.seq
                      (.reg [
                        ⟨(some 34), none, .mv (.t 8)⟩,
                        ⟨(some 35), none, .ld (some 3) (.t 13)⟩,
                        ⟨none, none, .mup [1, 1, 1] (.t 34) (.t 35) (.c (.b true))⟩])
                      (.reg [
                        ⟨(some 36), none, .fa 1 (.t 7)⟩,
                        ⟨(some 37), none, .ld none (.t 36)⟩,
                        ⟨(some 38), none, .ld (some 3) (.t 12)⟩,
                        ⟨(some 39), none, .bsi 3 1 [(.i .i64 0), (.i .i64 0), (.i .i64 0)] [(0, (.t 38))]⟩,
                        ⟨(some 40), none, .app 3 24 (.t 37) (.t 39)⟩,
                        ⟨(some 41), none, .fa 1 (.t 7)⟩,
                        ⟨none, none, .st 1 (.t 41) (.t 40)⟩]))))))))))
             (.reg [
               ⟨(some 70), none, .bin .add (.t 28) (.c (.i .i64 1))⟩,
               ⟨(some 28), none, .mv (.t 70)⟩])))))))
       (.seq
        (.reg [
          ⟨(some 71), none, .ld (some 2) (.t 7)⟩,
          ⟨(some 72), none, .mv (.t 9)⟩,
          ⟨(some 73), none, .mv (.t 10)⟩,
          ⟨none, none, .st 2 (.t 2) (.t 71)⟩,
          ⟨(some 3), none, .mv (.t 72)⟩,
          ⟨(some 4), none, .mv (.t 73)⟩,
          ⟨(some 5), none, .mv (.c (.i .i64 0))⟩])
        .ret)))))))
def weld_Clean.r : List Rr := [.cell 2 (some 2), .tmp 3, .tmp 4, .tmp 5]
abbrev weld_Clean.n : Nat := 74
def law09_corners.c (ref07_Corners : FuncId) : C :=
 (.seq
  (.reg [
    ⟨(some 2), none, .box (.t 0)⟩,
    ⟨(some 3), none, .box (.t 1)⟩,
    ⟨(some 4), none, .mv (.c (.b false))⟩])
  (.seq
   (.seq
    (.reg [
      ⟨(some 5), none, .mv (.c (.i .i64 0))⟩])
    (.blk 0
     (.loop
      (.seq
       (.seq
        (.reg [
          ⟨(some 14), none, .mv (.t 5)⟩,
          ⟨(some 15), none, .fa 1 (.t 2)⟩,
          ⟨(some 16), none, .ld none (.t 15)⟩,
          ⟨(some 17), none, .len 0 (.t 16)⟩,
          ⟨(some 18), none, .bin .lss (.t 14) (.t 17)⟩])
        (.ite (.t 18)
         .skip
         (.exit 0)))
       (.seq
        (.blk 1
         (.seq
          (.reg [
            ⟨(some 22), none, .ld (some 2) (.t 2)⟩,
            ⟨(some 23), none, .mv (.t 5)⟩,
            ⟨(some 24), none, .call ref07_Corners [(.t 22), (.t 23)]⟩,
            ⟨(some 21), none, .mv (.t 24)⟩,
            ⟨(some 25), none, .ext (.t 21) 0⟩,
            ⟨(some 26), none, .ext (.t 21) 1⟩,
            ⟨(some 27), none, .ext (.t 21) 2⟩,
            ⟨(some 28), none, .ext (.t 21) 3⟩,
            ⟨(some 6), none, .alloc [(.i .i64 0), (.i .i64 0), (.i .i64 0)]⟩,
            ⟨(some 7), none, .alloc [(.i .i64 0), (.i .i64 0), (.i .i64 0)]⟩,
            ⟨(some 8), none, .alloc [(.i .i64 0), (.i .i64 0), (.i .i64 0)]⟩,
            ⟨none, none, .st 3 (.t 6) (.t 25)⟩,
            ⟨none, none, .st 3 (.t 7) (.t 26)⟩,
            ⟨none, none, .st 3 (.t 8) (.t 27)⟩,
            ⟨(some 9), none, .mv (.t 28)⟩])
          (.seq
           (.reg [
             ⟨(some 30), none, .ld (some 2) (.t 3)⟩,
             ⟨(some 31), none, .mv (.t 5)⟩,
             ⟨(some 32), none, .call ref07_Corners [(.t 30), (.t 31)]⟩,
             ⟨(some 29), none, .mv (.t 32)⟩,
             ⟨(some 33), none, .ext (.t 29) 0⟩,
             ⟨(some 34), none, .ext (.t 29) 1⟩,
             ⟨(some 35), none, .ext (.t 29) 2⟩,
             ⟨(some 36), none, .ext (.t 29) 3⟩,
             ⟨(some 10), none, .alloc [(.i .i64 0), (.i .i64 0), (.i .i64 0)]⟩,
             ⟨(some 11), none, .alloc [(.i .i64 0), (.i .i64 0), (.i .i64 0)]⟩,
             ⟨(some 12), none, .alloc [(.i .i64 0), (.i .i64 0), (.i .i64 0)]⟩,
             ⟨none, none, .st 3 (.t 10) (.t 33)⟩,
             ⟨none, none, .st 3 (.t 11) (.t 34)⟩,
             ⟨none, none, .st 3 (.t 12) (.t 35)⟩,
             ⟨(some 13), none, .mv (.t 36)⟩])
           (.seq
            (.reg [
              ⟨(some 37), none, .ld (some 3) (.t 6)⟩,
              ⟨(some 38), none, .ld (some 3) (.t 10)⟩,
              ⟨(some 39), none, .eqa [1, 1, 1] true (.t 37) (.t 38)⟩,
              ⟨(some 40), none, .mv (.t 39)⟩,
              ⟨(some 41), (some (40, false)), .ld (some 3) (.t 7)⟩,
              ⟨(some 42), (some (40, false)), .ld (some 3) (.t 11)⟩,
              ⟨(some 43), (some (40, false)), .eqa [1, 1, 1] true (.t 41) (.t 42)⟩,
              ⟨(some 44), none, .pick (.t 40) (.c (.b true)) (.t 43)⟩,
              ⟨(some 45), none, .mv (.t 44)⟩,
              ⟨(some 46), (some (45, false)), .ld (some 3) (.t 8)⟩,
              ⟨(some 47), (some (45, false)), .ld (some 3) (.t 12)⟩,
              ⟨(some 48), (some (45, false)), .eqa [1, 1, 1] true (.t 46) (.t 47)⟩,
              ⟨(some 49), none, .pick (.t 45) (.c (.b true)) (.t 48)⟩])
            (.ite (.t 49)
             (.seq
              (.reg [
                ⟨(some 4), none, .mv (.c (.b false))⟩])
              .ret)
             .skip)))))
        (.reg [
          ⟨(some 19), none, .mv (.t 5)⟩,
          ⟨(some 20), none, .bin .add (.t 19) (.c (.i .i64 1))⟩,
          ⟨(some 5), none, .mv (.t 20)⟩]))))))
   (.seq
    (.reg [
      ⟨(some 4), none, .mv (.c (.b true))⟩])
    .ret)))
def law09_corners.r : List Rr := [.tmp 4]
abbrev law09_corners.n : Nat := 50
def ref09_Clean.c (ref07_Check ref09_Degenerate ref09_Twins : FuncId) : C :=
 (.seq
  (.reg [
    ⟨(some 1), none, .box (.t 0)⟩,
    ⟨(some 2), none, .alloc [.nil, .nil]⟩,
    ⟨(some 3), none, .mv (.c (.i .i64 0))⟩,
    ⟨(some 4), none, .mv (.c (.i .i64 0))⟩,
    ⟨(some 5), none, .mv (.c (.i .i64 0))⟩])
  (.seq
   (.reg [
     ⟨(some 13), none, .ld (some 2) (.t 1)⟩,
     ⟨(some 14), none, .call ref07_Check [(.t 13)]⟩,
     ⟨(some 6), none, .mv (.t 14)⟩])
   (.seq
    (.seq
     (.reg [
       ⟨(some 15), none, .mv (.t 6)⟩,
       ⟨(some 16), none, .bin .neq (.t 15) (.c (.i .i64 0))⟩])
     (.ite (.t 16)
      (.seq
       (.reg [
         ⟨(some 17), none, .build [.nil, .nil] []⟩,
         ⟨(some 18), none, .mv (.t 6)⟩,
         ⟨none, none, .st 2 (.t 2) (.t 17)⟩,
         ⟨(some 3), none, .mv (.c (.i .i64 0))⟩,
         ⟨(some 4), none, .mv (.c (.i .i64 0))⟩,
         ⟨(some 5), none, .mv (.t 18)⟩])
       .ret)
      .skip))
    (.seq
     (.reg [
       ⟨(some 19), none, .bso 3 0 [(.i .i64 0), (.i .i64 0), (.i .i64 0)] []⟩,
       ⟨(some 20), none, .fa 0 (.t 1)⟩,
       ⟨(some 21), none, .ld none (.t 20)⟩,
       ⟨(some 22), none, .app 3 24 (.t 19) (.t 21)⟩,
       ⟨(some 23), none, .build [.nil, .nil] [(0, 1, (.t 22))]⟩,
       ⟨(some 7), none, .alloc [.nil, .nil]⟩,
       ⟨none, none, .st 2 (.t 7) (.t 23)⟩])
     (.seq
      (.reg [
        ⟨(some 8), none, .mv (.c (.i .i64 0))⟩])
      (.seq
       (.reg [
         ⟨(some 9), none, .mv (.c (.i .i64 0))⟩])
       (.seq
        (.seq
         (.reg [
           ⟨(some 10), none, .mv (.c (.i .i64 0))⟩])
         (.blk 0
          (.loop
           (.seq
            (.seq
             (.reg [
               ⟨(some 24), none, .mv (.t 10)⟩,
               ⟨(some 25), none, .fa 1 (.t 1)⟩,
               ⟨(some 26), none, .ld none (.t 25)⟩,
               ⟨(some 27), none, .len 0 (.t 26)⟩,
               ⟨(some 28), none, .bin .lss (.t 24) (.t 27)⟩])
             (.ite (.t 28)
              .skip
              (.exit 0)))
            (.seq
             (.blk 1
              (.seq
               (.seq
                (.reg [
                  ⟨(some 31), none, .ld (some 2) (.t 1)⟩,
                  ⟨(some 32), none, .mv (.t 10)⟩,
                  ⟨(some 33), none, .call ref09_Degenerate [(.t 31), (.t 32)]⟩])
                (.ite (.t 33)
                 (.seq
                  (.reg [
                    ⟨(some 34), none, .mv (.t 8)⟩,
                    ⟨(some 35), none, .bin .add (.t 34) (.c (.i .i64 1))⟩,
                    ⟨(some 8), none, .mv (.t 35)⟩])
                  (.exit 1))
                 .skip))
               (.seq
                (.reg [
                  ⟨(some 11), none, .mv (.c (.b false))⟩])
                (.seq
                 (.seq
                  (.reg [
                    ⟨(some 12), none, .mv (.c (.i .i64 0))⟩])
                  (.blk 2
                   (.loop
                    (.seq
                     (.seq
                      (.reg [
                        ⟨(some 36), none, .mv (.t 12)⟩,
                        ⟨(some 37), none, .fa 1 (.t 7)⟩,
                        ⟨(some 38), none, .ld none (.t 37)⟩,
                        ⟨(some 39), none, .len 0 (.t 38)⟩,
                        ⟨(some 40), none, .bin .lss (.t 36) (.t 39)⟩])
                      (.ite (.t 40)
                       .skip
                       (.exit 2)))
                     (.seq
                      (.blk 3
                       (.drw [
                         ⟨(some 43), none, .mv (.t 11)⟩,
                         ⟨(some 44), none, .mv (.t 43)⟩,
                         ⟨(some 45), (some (44, false)), .fa 1 (.t 1)⟩,
                         ⟨(some 46), (some (44, false)), .ld none (.t 45)⟩,
                         ⟨(some 47), (some (44, false)), .mv (.t 10)⟩,
                         ⟨(some 48), (some (44, false)), .ia 3 (.t 46) (.t 47)⟩,
                         ⟨(some 49), (some (44, false)), .ld (some 3) (.t 48)⟩,
                         ⟨(some 50), (some (44, false)), .fa 1 (.t 7)⟩,
                         ⟨(some 51), (some (44, false)), .ld none (.t 50)⟩,
                         ⟨(some 52), (some (44, false)), .mv (.t 12)⟩,
                         ⟨(some 53), (some (44, false)), .ia 3 (.t 51) (.t 52)⟩,
                         ⟨(some 54), (some (44, false)), .ld (some 3) (.t 53)⟩,
                         ⟨(some 55), (some (44, false)), .call ref09_Twins [(.t 49), (.t 54)]⟩,
                         ⟨(some 56), none, .pick (.t 44) (.c (.b true)) (.t 55)⟩,
                         ⟨(some 11), none, .mv (.t 56)⟩] []))
                      (.reg [
                        ⟨(some 41), none, .mv (.t 12)⟩,
                        ⟨(some 42), none, .bin .add (.t 41) (.c (.i .i64 1))⟩,
                        ⟨(some 12), none, .mv (.t 42)⟩]))))))
                 (.seq
                  (.reg [
                    ⟨(some 57), none, .mv (.t 11)⟩])
                  (.ite (.t 57)
                   (.reg [
                     ⟨(some 58), none, .mv (.t 9)⟩,
                     ⟨(some 59), none, .bin .add (.t 58) (.c (.i .i64 1))⟩,
                     ⟨(some 9), none, .mv (.t 59)⟩])
                   (.drw [
                     ⟨(some 60), none, .fa 1 (.t 7)⟩,
                     ⟨(some 61), none, .ld none (.t 60)⟩,
                     ⟨(some 62), none, .fa 1 (.t 1)⟩,
                     ⟨(some 63), none, .ld none (.t 62)⟩,
                     ⟨(some 64), none, .mv (.t 10)⟩,
                     ⟨(some 65), none, .ia 3 (.t 63) (.t 64)⟩,
                     ⟨(some 66), none, .ld (some 3) (.t 65)⟩,
                     ⟨(some 67), none, .bsi 3 1 [(.i .i64 0), (.i .i64 0), (.i .i64 0)] [(0, (.t 66))]⟩,
                     ⟨(some 68), none, .app 3 24 (.t 61) (.t 67)⟩,
                     ⟨(some 69), none, .fa 1 (.t 7)⟩,
                     ⟨none, none, .st 1 (.t 69) (.t 68)⟩] [])))))))
             (.reg [
               ⟨(some 29), none, .mv (.t 10)⟩,
               ⟨(some 30), none, .bin .add (.t 29) (.c (.i .i64 1))⟩,
               ⟨(some 10), none, .mv (.t 30)⟩]))))))
        (.seq
         (.reg [
           ⟨(some 70), none, .ld (some 2) (.t 7)⟩,
           ⟨(some 71), none, .mv (.t 8)⟩,
           ⟨(some 72), none, .mv (.t 9)⟩,
           ⟨none, none, .st 2 (.t 2) (.t 70)⟩,
           ⟨(some 3), none, .mv (.t 71)⟩,
           ⟨(some 4), none, .mv (.t 72)⟩,
           ⟨(some 5), none, .mv (.c (.i .i64 0))⟩])
         .ret))))))))
def ref09_Clean.r : List Rr := [.cell 2 (some 2), .tmp 3, .tmp 4, .tmp 5]
abbrev ref09_Clean.n : Nat := 73
def weld_Degenerate.c (mesh_Corners vec_Collinear : FuncId) : C :=
 (.seq
  (.reg [
    ⟨(some 2), none, .box (.t 0)⟩,
    ⟨(some 4), none, .mv (.c (.b false))⟩])
  (.seq
   (.reg [
     ⟨(some 10), none, .ld (some 2) (.t 2)⟩,
     ⟨(some 11), none, .mv (.t 1)⟩,
     ⟨(some 12), none, .call mesh_Corners [(.t 10), (.t 11)]⟩,
     ⟨(some 9), none, .mv (.t 12)⟩,
     ⟨(some 13), none, .ext (.t 9) 0⟩,
     ⟨(some 14), none, .ext (.t 9) 1⟩,
     ⟨(some 15), none, .ext (.t 9) 2⟩,
     ⟨(some 16), none, .ext (.t 9) 3⟩,
     ⟨(some 5), none, .alloc [(.i .i64 0), (.i .i64 0), (.i .i64 0)]⟩,
     ⟨(some 6), none, .alloc [(.i .i64 0), (.i .i64 0), (.i .i64 0)]⟩,
     ⟨(some 7), none, .alloc [(.i .i64 0), (.i .i64 0), (.i .i64 0)]⟩,
     ⟨none, none, .st 3 (.t 5) (.t 13)⟩,
     ⟨none, none, .st 3 (.t 6) (.t 14)⟩,
     ⟨none, none, .st 3 (.t 7) (.t 15)⟩,
     ⟨(some 8), none, .mv (.t 16)⟩])
   (.seq
    (.reg [
      ⟨(some 17), none, .mv (.t 8)⟩,
      ⟨(some 18), none, .mv (.t 17)⟩,
      ⟨(some 19), (some (18, true)), .ld (some 3) (.t 5)⟩,
      ⟨(some 20), (some (18, true)), .ld (some 3) (.t 6)⟩,
      ⟨(some 21), (some (18, true)), .ld (some 3) (.t 7)⟩,
      ⟨(some 22), (some (18, true)), .call vec_Collinear [(.t 19), (.t 20), (.t 21)]⟩,
      ⟨(some 23), none, .pick (.t 18) (.t 22) (.c (.b false))⟩,
      ⟨(some 4), none, .mv (.t 23)⟩])
    .ret)))
def weld_Degenerate.r : List Rr := [.tmp 4]
abbrev weld_Degenerate.n : Nat := 24
def ref09_Degenerate.c (ref07_Corners ref04_Collinear : FuncId) : C :=
 (.seq
  (.reg [
    ⟨(some 2), none, .box (.t 0)⟩,
    ⟨(some 4), none, .mv (.c (.b false))⟩])
  (.seq
   (.reg [
     ⟨(some 10), none, .ld (some 2) (.t 2)⟩,
     ⟨(some 11), none, .mv (.t 1)⟩,
     ⟨(some 12), none, .call ref07_Corners [(.t 10), (.t 11)]⟩,
     ⟨(some 9), none, .mv (.t 12)⟩,
     ⟨(some 13), none, .ext (.t 9) 0⟩,
     ⟨(some 14), none, .ext (.t 9) 1⟩,
     ⟨(some 15), none, .ext (.t 9) 2⟩,
     ⟨(some 16), none, .ext (.t 9) 3⟩,
     ⟨(some 5), none, .alloc [(.i .i64 0), (.i .i64 0), (.i .i64 0)]⟩,
     ⟨(some 6), none, .alloc [(.i .i64 0), (.i .i64 0), (.i .i64 0)]⟩,
     ⟨(some 7), none, .alloc [(.i .i64 0), (.i .i64 0), (.i .i64 0)]⟩,
     ⟨none, none, .st 3 (.t 5) (.t 13)⟩,
     ⟨none, none, .st 3 (.t 6) (.t 14)⟩,
     ⟨none, none, .st 3 (.t 7) (.t 15)⟩,
     ⟨(some 8), none, .mv (.t 16)⟩])
   (.seq
    (.reg [
      ⟨(some 17), none, .mv (.t 8)⟩,
      ⟨(some 18), none, .mv (.t 17)⟩,
      ⟨(some 19), (some (18, true)), .ld (some 3) (.t 5)⟩,
      ⟨(some 20), (some (18, true)), .ld (some 3) (.t 6)⟩,
      ⟨(some 21), (some (18, true)), .ld (some 3) (.t 7)⟩,
      ⟨(some 22), (some (18, true)), .call ref04_Collinear [(.t 19), (.t 20), (.t 21)]⟩,
      ⟨(some 23), none, .pick (.t 18) (.t 22) (.c (.b false))⟩,
      ⟨(some 4), none, .mv (.t 23)⟩])
    .ret)))
def ref09_Degenerate.r : List Rr := [.tmp 4]
abbrev ref09_Degenerate.n : Nat := 24
def ref09_Twins.c : C :=
 (.seq
  (.reg [
    ⟨(some 2), none, .box (.t 0)⟩,
    ⟨(some 3), none, .box (.t 1)⟩,
    ⟨(some 4), none, .mv (.c (.b false))⟩])
  (.seq
   (.reg [
     ⟨(some 5), none, .ld (some 3) (.t 2)⟩,
     ⟨(some 6), none, .ld (some 3) (.t 3)⟩,
     ⟨(some 7), none, .eqa [1, 1, 1] false (.t 5) (.t 6)⟩,
     ⟨(some 8), none, .mv (.t 7)⟩,
     ⟨(some 9), (some (8, false)), .ld (some 3) (.t 2)⟩,
     ⟨(some 10), (some (8, false)), .fa 1 (.t 3)⟩,
     ⟨(some 11), (some (8, false)), .ld none (.t 10)⟩,
     ⟨(some 12), (some (8, false)), .fa 2 (.t 3)⟩,
     ⟨(some 13), (some (8, false)), .ld none (.t 12)⟩,
     ⟨(some 14), (some (8, false)), .fa 0 (.t 3)⟩,
     ⟨(some 15), (some (8, false)), .ld none (.t 14)⟩,
     ⟨(some 16), (some (8, false)), .build [(.i .i64 0), (.i .i64 0), (.i .i64 0)] [(0, 1, (.t 11)), (1, 1, (.t 13)), (2, 1, (.t 15))]⟩,
     ⟨(some 17), (some (8, false)), .eqa [1, 1, 1] false (.t 9) (.t 16)⟩,
     ⟨(some 18), none, .pick (.t 8) (.c (.b true)) (.t 17)⟩,
     ⟨(some 19), none, .mv (.t 18)⟩,
     ⟨(some 20), (some (19, false)), .ld (some 3) (.t 2)⟩,
     ⟨(some 21), (some (19, false)), .fa 2 (.t 3)⟩,
     ⟨(some 22), (some (19, false)), .ld none (.t 21)⟩,
     ⟨(some 23), (some (19, false)), .fa 0 (.t 3)⟩,
     ⟨(some 24), (some (19, false)), .ld none (.t 23)⟩,
     ⟨(some 25), (some (19, false)), .fa 1 (.t 3)⟩,
     ⟨(some 26), (some (19, false)), .ld none (.t 25)⟩,
     ⟨(some 27), (some (19, false)), .build [(.i .i64 0), (.i .i64 0), (.i .i64 0)] [(0, 1, (.t 22)), (1, 1, (.t 24)), (2, 1, (.t 26))]⟩,
     ⟨(some 28), (some (19, false)), .eqa [1, 1, 1] false (.t 20) (.t 27)⟩,
     ⟨(some 29), none, .pick (.t 19) (.c (.b true)) (.t 28)⟩,
     ⟨(some 4), none, .mv (.t 29)⟩])
   .ret))
def ref09_Twins.r : List Rr := [.tmp 4]
abbrev ref09_Twins.n : Nat := 30
def weld_used.c (slices_SortFunc_api_Vec_api_Vec weld_used_1 : FuncId) : C :=
 (.seq
  (.reg [
    ⟨(some 1), none, .box (.t 0)⟩,
    ⟨(some 2), none, .mv (.c .nil)⟩])
  (.seq
   (.reg [
     ⟨(some 10), none, .mkm none⟩,
     ⟨(some 3), none, .mv (.t 10)⟩])
   (.seq
    (.reg [
      ⟨(some 4), none, .mv (.c .nil)⟩])
    (.seq
     (.seq
      (.reg [
        ⟨(some 11), none, .fa 1 (.t 1)⟩,
        ⟨(some 12), none, .ld none (.t 11)⟩,
        ⟨(some 13), none, .len 0 (.t 12)⟩,
        ⟨(some 14), none, .mv (.c (.i .i64 0))⟩])
      (.blk 0
       (.loop
        (.seq
         (.reg [
           ⟨(some 15), none, .bin .lss (.t 14) (.t 13)⟩])
         (.seq
          (.ite (.t 15)
           .skip
           (.exit 0))
          (.seq
           (.blk 1
            (.seq
             (.reg [
               ⟨(some 16), none, .ia 3 (.t 12) (.t 14)⟩,
               ⟨(some 17), none, .ld (some 3) (.t 16)⟩,
               ⟨(some 6), none, .alloc [(.i .i64 0), (.i .i64 0), (.i .i64 0)]⟩,
               ⟨none, none, .st 3 (.t 6) (.t 17)⟩])
             (.seq
              (.reg [
                ⟨(some 18), none, .fa 0 (.t 6)⟩,
                ⟨(some 19), none, .ld none (.t 18)⟩,
                ⟨(some 20), none, .fa 1 (.t 6)⟩,
                ⟨(some 21), none, .ld none (.t 20)⟩,
                ⟨(some 22), none, .fa 2 (.t 6)⟩,
                ⟨(some 23), none, .ld none (.t 22)⟩,
                ⟨(some 24), none, .build [(.i .i64 0), (.i .i64 0), (.i .i64 0)] [(0, 1, (.t 19)), (1, 1, (.t 21)), (2, 1, (.t 23))]⟩,
                ⟨(some 25), none, .mv (.c (.i .i64 0))⟩])
              (.blk 2
               (.loop
                (.seq
                 (.reg [
                   ⟨(some 26), none, .bin .lss (.t 25) (.c (.i .i64 3))⟩])
                 (.seq
                  (.ite (.t 26)
                   .skip
                   (.exit 2))
                  (.seq
                   (.blk 3
                    (.seq
                     (.reg [
                       ⟨(some 27), none, .ix 3 1 none (.t 24) (.t 25)⟩,
                       ⟨(some 8), none, .mv (.t 27)⟩])
                     (.seq
                      (.reg [
                        ⟨(some 28), none, .fa 0 (.t 1)⟩,
                        ⟨(some 29), none, .ld none (.t 28)⟩,
                        ⟨(some 30), none, .mv (.t 8)⟩,
                        ⟨(some 31), none, .ia 3 (.t 29) (.t 30)⟩,
                        ⟨(some 32), none, .ld (some 3) (.t 31)⟩,
                        ⟨(some 9), none, .alloc [(.i .i64 0), (.i .i64 0), (.i .i64 0)]⟩,
                        ⟨none, none, .st 3 (.t 9) (.t 32)⟩])
                      (.seq
                       (.reg [
                         ⟨(some 33), none, .mv (.t 3)⟩,
                         ⟨(some 34), none, .ld (some 3) (.t 9)⟩,
                         ⟨(some 35), none, .lk [1, 1, 1] (.b false) false (.t 33) (.t 34)⟩,
                         ⟨(some 36), none, .un .not (.t 35)⟩])
                       (.ite (.t 36)
                        (.seq
                         (.reg [
                           ⟨(some 37), none, .mv (.t 3)⟩,
                           ⟨(some 38), none, .ld (some 3) (.t 9)⟩,
                           ⟨none, none, .mup [1, 1, 1] (.t 37) (.t 38) (.c (.b true))⟩])
                         (.reg [
                           ⟨(some 39), none, .mv (.t 4)⟩,
                           ⟨(some 40), none, .ld (some 3) (.t 9)⟩,
                           ⟨(some 41), none, .bsi 3 1 [(.i .i64 0), (.i .i64 0), (.i .i64 0)] [(0, (.t 40))]⟩,
                           ⟨(some 42), none, .app 3 24 (.t 39) (.t 41)⟩,
                           ⟨(some 4), none, .mv (.t 42)⟩]))
                        .skip)))))
                   (.reg [
                     ⟨(some 43), none, .bin .add (.t 25) (.c (.i .i64 1))⟩,
                     ⟨(some 25), none, .mv (.t 43)⟩])))))))))
           (.reg [
             ⟨(some 44), none, .bin .add (.t 14) (.c (.i .i64 1))⟩,
             ⟨(some 14), none, .mv (.t 44)⟩])))))))
     (.seq
      (.reg [
        ⟨(some 45), none, .mv (.t 4)⟩,
        ⟨(some 46), none, .call slices_SortFunc_api_Vec_api_Vec [(.t 45), (.c (.f weld_used_1 []))]⟩])
      (.seq
       (.reg [
         ⟨(some 47), none, .mv (.t 4)⟩,
         ⟨(some 2), none, .mv (.t 47)⟩])
       .ret))))))
def weld_used.r : List Rr := [.tmp 2]
abbrev weld_used.n : Nat := 48
def ref09_find.c : C :=
 (.seq
  (.reg [
    ⟨(some 3), none, .box (.t 1)⟩,
    ⟨(some 4), none, .mv (.c (.i .i64 0))⟩])
  (.seq
   (.seq
    (.reg [
      ⟨(some 5), none, .mv (.c (.i .i64 0))⟩])
    (.blk 0
     (.loop
      (.seq
       (.seq
        (.reg [
          ⟨(some 6), none, .mv (.t 5)⟩,
          ⟨(some 7), none, .mv (.t 0)⟩,
          ⟨(some 8), none, .len 0 (.t 7)⟩,
          ⟨(some 9), none, .bin .lss (.t 6) (.t 8)⟩])
        (.ite (.t 9)
         .skip
         (.exit 0)))
       (.seq
        (.blk 1
         (.seq
          (.drw [
            ⟨(some 12), none, .mv (.t 0)⟩,
            ⟨(some 13), none, .mv (.t 5)⟩,
            ⟨(some 14), none, .ia 3 (.t 12) (.t 13)⟩,
            ⟨(some 15), none, .ld (some 3) (.t 14)⟩,
            ⟨(some 16), none, .ld (some 3) (.t 3)⟩,
            ⟨(some 17), none, .eqa [1, 1, 1] false (.t 15) (.t 16)⟩] [])
          (.ite (.t 17)
           (.seq
            (.reg [
              ⟨(some 18), none, .mv (.t 5)⟩,
              ⟨(some 4), none, .mv (.t 18)⟩])
            .ret)
           .skip)))
        (.reg [
          ⟨(some 10), none, .mv (.t 5)⟩,
          ⟨(some 11), none, .bin .add (.t 10) (.c (.i .i64 1))⟩,
          ⟨(some 5), none, .mv (.t 11)⟩]))))))
   (.seq
    (.reg [
      ⟨(some 4), none, .mv (.c (.i .i64 (-1)))⟩])
    .ret)))
def ref09_find.r : List Rr := [.tmp 4]
abbrev ref09_find.n : Nat := 19
def ref09_used.c : C :=
 (.seq
  (.reg [
    ⟨(some 2), none, .box (.t 0)⟩,
    ⟨(some 3), none, .box (.t 1)⟩,
    ⟨(some 4), none, .mv (.c (.b false))⟩])
  (.seq
   (.seq
    (.reg [
      ⟨(some 5), none, .mv (.c (.i .i64 0))⟩])
    (.blk 0
     (.loop
      (.seq
       (.seq
        (.reg [
          ⟨(some 7), none, .mv (.t 5)⟩,
          ⟨(some 8), none, .fa 1 (.t 2)⟩,
          ⟨(some 9), none, .ld none (.t 8)⟩,
          ⟨(some 10), none, .len 0 (.t 9)⟩,
          ⟨(some 11), none, .bin .lss (.t 7) (.t 10)⟩])
        (.ite (.t 11)
         .skip
         (.exit 0)))
       (.seq
        (.blk 1
         (.seq
          (.reg [
            ⟨(some 14), none, .fa 1 (.t 2)⟩,
            ⟨(some 15), none, .ld none (.t 14)⟩,
            ⟨(some 16), none, .mv (.t 5)⟩,
            ⟨(some 17), none, .ia 3 (.t 15) (.t 16)⟩,
            ⟨(some 18), none, .ld (some 3) (.t 17)⟩,
            ⟨(some 6), none, .alloc [(.i .i64 0), (.i .i64 0), (.i .i64 0)]⟩,
            ⟨none, none, .st 3 (.t 6) (.t 18)⟩])
          (.seq
           (.drw [
             ⟨(some 19), none, .fa 0 (.t 2)⟩,
             ⟨(some 20), none, .ld none (.t 19)⟩,
             ⟨(some 21), none, .fa 0 (.t 6)⟩,
             ⟨(some 22), none, .ld none (.t 21)⟩,
             ⟨(some 23), none, .ia 3 (.t 20) (.t 22)⟩,
             ⟨(some 24), none, .ld (some 3) (.t 23)⟩,
             ⟨(some 25), none, .ld (some 3) (.t 3)⟩,
             ⟨(some 26), none, .eqa [1, 1, 1] false (.t 24) (.t 25)⟩,
             ⟨(some 27), none, .mv (.t 26)⟩,
             ⟨(some 28), (some (27, false)), .fa 0 (.t 2)⟩,
             ⟨(some 29), (some (27, false)), .ld none (.t 28)⟩,
             ⟨(some 30), (some (27, false)), .fa 1 (.t 6)⟩,
             ⟨(some 31), (some (27, false)), .ld none (.t 30)⟩,
             ⟨(some 32), (some (27, false)), .ia 3 (.t 29) (.t 31)⟩,
             ⟨(some 33), (some (27, false)), .ld (some 3) (.t 32)⟩,
             ⟨(some 34), (some (27, false)), .ld (some 3) (.t 3)⟩,
             ⟨(some 35), (some (27, false)), .eqa [1, 1, 1] false (.t 33) (.t 34)⟩,
             ⟨(some 36), none, .pick (.t 27) (.c (.b true)) (.t 35)⟩,
             ⟨(some 37), none, .mv (.t 36)⟩,
             ⟨(some 38), (some (37, false)), .fa 0 (.t 2)⟩,
             ⟨(some 39), (some (37, false)), .ld none (.t 38)⟩,
             ⟨(some 40), (some (37, false)), .fa 2 (.t 6)⟩,
             ⟨(some 41), (some (37, false)), .ld none (.t 40)⟩,
             ⟨(some 42), (some (37, false)), .ia 3 (.t 39) (.t 41)⟩,
             ⟨(some 43), (some (37, false)), .ld (some 3) (.t 42)⟩,
             ⟨(some 44), (some (37, false)), .ld (some 3) (.t 3)⟩,
             ⟨(some 45), (some (37, false)), .eqa [1, 1, 1] false (.t 43) (.t 44)⟩,
             ⟨(some 46), none, .pick (.t 37) (.c (.b true)) (.t 45)⟩] [])
           (.ite (.t 46)
            (.seq
             (.reg [
               ⟨(some 4), none, .mv (.c (.b true))⟩])
             .ret)
            .skip))))
        (.reg [
          ⟨(some 12), none, .mv (.t 5)⟩,
          ⟨(some 13), none, .bin .add (.t 12) (.c (.i .i64 1))⟩,
          ⟨(some 5), none, .mv (.t 13)⟩]))))))
   (.seq
    (.reg [
      ⟨(some 4), none, .mv (.c (.b false))⟩])
    .ret)))
def ref09_used.r : List Rr := [.tmp 4]
abbrev ref09_used.n : Nat := 47
def ref09_insert.c (ref04_Less : FuncId) : C :=
 (.seq
  (.reg [
    ⟨(some 3), none, .box (.t 1)⟩,
    ⟨(some 4), none, .mv (.c .nil)⟩])
  (.seq
   (.reg [
     ⟨(some 5), none, .mv (.c .nil)⟩])
   (.seq
    (.reg [
      ⟨(some 6), none, .mv (.c (.b false))⟩])
    (.seq
     (.seq
      (.reg [
        ⟨(some 7), none, .mv (.c (.i .i64 0))⟩])
      (.blk 0
       (.loop
        (.seq
         (.seq
          (.reg [
            ⟨(some 8), none, .mv (.t 7)⟩,
            ⟨(some 9), none, .mv (.t 0)⟩,
            ⟨(some 10), none, .len 0 (.t 9)⟩,
            ⟨(some 11), none, .bin .lss (.t 8) (.t 10)⟩])
          (.ite (.t 11)
           .skip
           (.exit 0)))
         (.seq
          (.blk 1
           (.seq
            (.seq
             (.drw [
               ⟨(some 14), none, .mv (.t 6)⟩,
               ⟨(some 15), none, .un .not (.t 14)⟩,
               ⟨(some 16), none, .mv (.t 15)⟩,
               ⟨(some 17), (some (16, true)), .ld (some 3) (.t 3)⟩,
               ⟨(some 18), (some (16, true)), .mv (.t 0)⟩,
               ⟨(some 19), (some (16, true)), .mv (.t 7)⟩,
               ⟨(some 20), (some (16, true)), .ia 3 (.t 18) (.t 19)⟩,
               ⟨(some 21), (some (16, true)), .ld (some 3) (.t 20)⟩,
               ⟨(some 22), (some (16, true)), .call ref04_Less [(.t 17), (.t 21)]⟩,
               ⟨(some 23), none, .pick (.t 16) (.t 22) (.c (.b false))⟩] [])
             (.ite (.t 23)
              (.seq
               (.reg [
                 ⟨(some 24), none, .mv (.t 5)⟩,
                 ⟨(some 25), none, .ld (some 3) (.t 3)⟩,
                 ⟨(some 26), none, .bsi 3 1 [(.i .i64 0), (.i .i64 0), (.i .i64 0)] [(0, (.t 25))]⟩,
                 ⟨(some 27), none, .app 3 24 (.t 24) (.t 26)⟩,
                 ⟨(some 5), none, .mv (.t 27)⟩])
               (.reg [
                 ⟨(some 6), none, .mv (.c (.b true))⟩]))
              .skip))
            (.reg [
              ⟨(some 28), none, .mv (.t 5)⟩,
              ⟨(some 29), none, .mv (.t 0)⟩,
              ⟨(some 30), none, .mv (.t 7)⟩,
              ⟨(some 31), none, .ia 3 (.t 29) (.t 30)⟩,
              ⟨(some 32), none, .ld (some 3) (.t 31)⟩,
              ⟨(some 33), none, .bsi 3 1 [(.i .i64 0), (.i .i64 0), (.i .i64 0)] [(0, (.t 32))]⟩,
              ⟨(some 34), none, .app 3 24 (.t 28) (.t 33)⟩,
              ⟨(some 5), none, .mv (.t 34)⟩])))
          (.reg [
            ⟨(some 12), none, .mv (.t 7)⟩,
            ⟨(some 13), none, .bin .add (.t 12) (.c (.i .i64 1))⟩,
            ⟨(some 7), none, .mv (.t 13)⟩]))))))
     (.seq
      (.seq
       (.reg [
         ⟨(some 35), none, .mv (.t 6)⟩,
         ⟨(some 36), none, .un .not (.t 35)⟩])
       (.ite (.t 36)
        (.reg [
          ⟨(some 37), none, .mv (.t 5)⟩,
          ⟨(some 38), none, .ld (some 3) (.t 3)⟩,
          ⟨(some 39), none, .bsi 3 1 [(.i .i64 0), (.i .i64 0), (.i .i64 0)] [(0, (.t 38))]⟩,
          ⟨(some 40), none, .app 3 24 (.t 37) (.t 39)⟩,
          ⟨(some 5), none, .mv (.t 40)⟩])
        .skip))
      (.seq
       (.reg [
         ⟨(some 41), none, .mv (.t 5)⟩,
         ⟨(some 4), none, .mv (.t 41)⟩])
       .ret))))))
def ref09_insert.r : List Rr := [.tmp 4]
abbrev ref09_insert.n : Nat := 42
def weld_turned.c (weld_before : FuncId) : C :=
 (.seq
  (.reg [
    ⟨(some 1), none, .box (.t 0)⟩,
    ⟨(some 2), none, .alloc [(.i .i64 0), (.i .i64 0), (.i .i64 0)]⟩])
  (.seq
   (.reg [
     ⟨(some 4), none, .ld (some 3) (.t 1)⟩,
     ⟨(some 3), none, .alloc [(.i .i64 0), (.i .i64 0), (.i .i64 0)]⟩,
     ⟨none, none, .st 3 (.t 3) (.t 4)⟩])
   (.seq
    (.seq
     (.reg [
       ⟨(some 5), none, .mv (.c (.i .i64 0))⟩])
     (.blk 0
      (.loop
       (.seq
        (.reg [
          ⟨(some 6), none, .bin .lss (.t 5) (.c (.i .i64 2))⟩])
        (.seq
         (.ite (.t 6)
          .skip
          (.exit 0))
         (.seq
          (.blk 1
           (.seq
            (.reg [
              ⟨(some 7), none, .fa 1 (.t 1)⟩,
              ⟨(some 8), none, .ld none (.t 7)⟩,
              ⟨(some 9), none, .fa 2 (.t 1)⟩,
              ⟨(some 10), none, .ld none (.t 9)⟩,
              ⟨(some 11), none, .fa 0 (.t 1)⟩,
              ⟨(some 12), none, .ld none (.t 11)⟩,
              ⟨(some 13), none, .build [(.i .i64 0), (.i .i64 0), (.i .i64 0)] [(0, 1, (.t 8)), (1, 1, (.t 10)), (2, 1, (.t 12))]⟩,
              ⟨none, none, .st 3 (.t 1) (.t 13)⟩])
            (.seq
             (.reg [
               ⟨(some 14), none, .ld (some 3) (.t 1)⟩,
               ⟨(some 15), none, .ld (some 3) (.t 3)⟩,
               ⟨(some 16), none, .call weld_before [(.t 14), (.t 15)]⟩])
             (.ite (.t 16)
              (.reg [
                ⟨(some 17), none, .ld (some 3) (.t 1)⟩,
                ⟨none, none, .st 3 (.t 3) (.t 17)⟩])
              .skip))))
          (.reg [
            ⟨(some 18), none, .bin .add (.t 5) (.c (.i .i64 1))⟩,
            ⟨(some 5), none, .mv (.t 18)⟩])))))))
    (.seq
     (.reg [
       ⟨(some 19), none, .ld (some 3) (.t 3)⟩,
       ⟨none, none, .st 3 (.t 2) (.t 19)⟩])
     .ret))))
def weld_turned.r : List Rr := [.cell 2 (some 3)]
abbrev weld_turned.n : Nat := 20
def vec_Collinear.c (vec_Valid vec_Sub vec_Cross : FuncId) : C :=
 (.seq
  (.reg [
    ⟨(some 3), none, .box (.t 0)⟩,
    ⟨(some 4), none, .box (.t 1)⟩,
    ⟨(some 5), none, .box (.t 2)⟩,
    ⟨(some 6), none, .mv (.c (.b false))⟩])
  (.seq
   (.drw [
     ⟨(some 7), none, .ld (some 3) (.t 3)⟩,
     ⟨(some 8), none, .call vec_Valid [(.t 7)]⟩,
     ⟨(some 9), none, .mv (.t 8)⟩,
     ⟨(some 10), (some (9, true)), .ld (some 3) (.t 4)⟩,
     ⟨(some 11), (some (9, true)), .call vec_Valid [(.t 10)]⟩,
     ⟨(some 12), none, .pick (.t 9) (.t 11) (.c (.b false))⟩,
     ⟨(some 13), none, .mv (.t 12)⟩,
     ⟨(some 14), (some (13, true)), .ld (some 3) (.t 5)⟩,
     ⟨(some 15), (some (13, true)), .call vec_Valid [(.t 14)]⟩,
     ⟨(some 16), none, .pick (.t 13) (.t 15) (.c (.b false))⟩,
     ⟨(some 17), none, .mv (.t 16)⟩,
     ⟨(some 18), (some (17, true)), .ld (some 3) (.t 4)⟩,
     ⟨(some 19), (some (17, true)), .ld (some 3) (.t 3)⟩,
     ⟨(some 20), (some (17, true)), .call vec_Sub [(.t 18), (.t 19)]⟩,
     ⟨(some 21), (some (17, true)), .ld (some 3) (.t 5)⟩,
     ⟨(some 22), (some (17, true)), .ld (some 3) (.t 3)⟩,
     ⟨(some 23), (some (17, true)), .call vec_Sub [(.t 21), (.t 22)]⟩,
     ⟨(some 24), (some (17, true)), .call vec_Cross [(.t 20), (.t 23)]⟩,
     ⟨(some 25), (some (17, true)), .build [(.i .i64 0), (.i .i64 0), (.i .i64 0)] []⟩,
     ⟨(some 26), (some (17, true)), .eqa [1, 1, 1] false (.t 24) (.t 25)⟩,
     ⟨(some 27), none, .pick (.t 17) (.t 26) (.c (.b false))⟩,
     ⟨(some 6), none, .mv (.t 27)⟩] [[], [], [], [], [], [], [], [], [], [], [], [], [], [], [13], [13], [], [], [], [], [], []])
   .ret))
def vec_Collinear.r : List Rr := [.tmp 6]
abbrev vec_Collinear.n : Nat := 28
def ref04_Collinear.c (ref04_Valid ref04_Sub ref04_Cross : FuncId) : C :=
 (.seq
  (.reg [
    ⟨(some 3), none, .box (.t 0)⟩,
    ⟨(some 4), none, .box (.t 1)⟩,
    ⟨(some 5), none, .box (.t 2)⟩,
    ⟨(some 6), none, .mv (.c (.b false))⟩])
  (.seq
   (.seq
    (.reg [
      ⟨(some 7), none, .ld (some 3) (.t 3)⟩,
      ⟨(some 8), none, .call ref04_Valid [(.t 7)]⟩,
      ⟨(some 9), none, .un .not (.t 8)⟩,
      ⟨(some 10), none, .mv (.t 9)⟩,
      ⟨(some 11), (some (10, false)), .ld (some 3) (.t 4)⟩,
      ⟨(some 12), (some (10, false)), .call ref04_Valid [(.t 11)]⟩,
      ⟨(some 13), (some (10, false)), .un .not (.t 12)⟩,
      ⟨(some 14), none, .pick (.t 10) (.c (.b true)) (.t 13)⟩,
      ⟨(some 15), none, .mv (.t 14)⟩,
      ⟨(some 16), (some (15, false)), .ld (some 3) (.t 5)⟩,
      ⟨(some 17), (some (15, false)), .call ref04_Valid [(.t 16)]⟩,
      ⟨(some 18), (some (15, false)), .un .not (.t 17)⟩,
      ⟨(some 19), none, .pick (.t 15) (.c (.b true)) (.t 18)⟩])
    (.ite (.t 19)
     (.seq
      (.reg [
        ⟨(some 6), none, .mv (.c (.b false))⟩])
      .ret)
     .skip))
   (.seq
    (.drw [
      ⟨(some 20), none, .ld (some 3) (.t 4)⟩,
      ⟨(some 21), none, .ld (some 3) (.t 3)⟩,
      ⟨(some 22), none, .call ref04_Sub [(.t 20), (.t 21)]⟩,
      ⟨(some 23), none, .ld (some 3) (.t 5)⟩,
      ⟨(some 24), none, .ld (some 3) (.t 3)⟩,
      ⟨(some 25), none, .call ref04_Sub [(.t 23), (.t 24)]⟩,
      ⟨(some 26), none, .call ref04_Cross [(.t 22), (.t 25)]⟩,
      ⟨(some 27), none, .build [(.i .i64 0), (.i .i64 0), (.i .i64 0)] []⟩,
      ⟨(some 28), none, .eqa [1, 1, 1] false (.t 26) (.t 27)⟩,
      ⟨(some 6), none, .mv (.t 28)⟩] [[], [], [], [2], [2], [], [], [], [], []])
    .ret)))
def ref04_Collinear.r : List Rr := [.tmp 6]
abbrev ref04_Collinear.n : Nat := 29
def weld_used_1.c (vec_Less : FuncId) : C :=
 (.seq
  (.reg [
    ⟨(some 2), none, .box (.t 0)⟩,
    ⟨(some 3), none, .box (.t 1)⟩,
    ⟨(some 4), none, .mv (.c (.i .i64 0))⟩])
  (.seq
   (.blk 0
    (.seq
     (.reg [
       ⟨(some 6), none, .ld (some 3) (.t 2)⟩,
       ⟨(some 7), none, .ld (some 3) (.t 3)⟩,
       ⟨(some 8), none, .call vec_Less [(.t 6), (.t 7)]⟩,
       ⟨(some 5), none, .mv (.t 8)⟩])
     (.ite (.t 5)
      (.seq
       (.reg [
         ⟨(some 4), none, .mv (.c (.i .i64 (-1)))⟩])
       .ret)
      (.seq
       (.reg [
         ⟨(some 10), none, .ld (some 3) (.t 3)⟩,
         ⟨(some 11), none, .ld (some 3) (.t 2)⟩,
         ⟨(some 12), none, .call vec_Less [(.t 10), (.t 11)]⟩,
         ⟨(some 9), none, .mv (.t 12)⟩])
       (.ite (.t 9)
        (.seq
         (.reg [
           ⟨(some 4), none, .mv (.c (.i .i64 1))⟩])
         .ret)
        .skip)))))
   (.seq
    (.reg [
      ⟨(some 4), none, .mv (.c (.i .i64 0))⟩])
    .ret)))
def weld_used_1.r : List Rr := [.tmp 4]
abbrev weld_used_1.n : Nat := 13
def vec_Less.c : C :=
 (.seq
  (.reg [
    ⟨(some 2), none, .box (.t 0)⟩,
    ⟨(some 3), none, .box (.t 1)⟩,
    ⟨(some 4), none, .mv (.c (.b false))⟩])
  (.seq
   (.seq
    (.reg [
      ⟨(some 5), none, .fa 0 (.t 2)⟩,
      ⟨(some 6), none, .ld none (.t 5)⟩,
      ⟨(some 7), none, .fa 0 (.t 3)⟩,
      ⟨(some 8), none, .ld none (.t 7)⟩,
      ⟨(some 9), none, .bin .neq (.t 6) (.t 8)⟩])
    (.ite (.t 9)
     (.seq
      (.reg [
        ⟨(some 10), none, .fa 0 (.t 2)⟩,
        ⟨(some 11), none, .ld none (.t 10)⟩,
        ⟨(some 12), none, .fa 0 (.t 3)⟩,
        ⟨(some 13), none, .ld none (.t 12)⟩,
        ⟨(some 14), none, .bin .lss (.t 11) (.t 13)⟩,
        ⟨(some 4), none, .mv (.t 14)⟩])
      .ret)
     .skip))
   (.seq
    (.seq
     (.reg [
       ⟨(some 15), none, .fa 1 (.t 2)⟩,
       ⟨(some 16), none, .ld none (.t 15)⟩,
       ⟨(some 17), none, .fa 1 (.t 3)⟩,
       ⟨(some 18), none, .ld none (.t 17)⟩,
       ⟨(some 19), none, .bin .neq (.t 16) (.t 18)⟩])
     (.ite (.t 19)
      (.seq
       (.reg [
         ⟨(some 20), none, .fa 1 (.t 2)⟩,
         ⟨(some 21), none, .ld none (.t 20)⟩,
         ⟨(some 22), none, .fa 1 (.t 3)⟩,
         ⟨(some 23), none, .ld none (.t 22)⟩,
         ⟨(some 24), none, .bin .lss (.t 21) (.t 23)⟩,
         ⟨(some 4), none, .mv (.t 24)⟩])
       .ret)
      .skip))
    (.seq
     (.reg [
       ⟨(some 25), none, .fa 2 (.t 2)⟩,
       ⟨(some 26), none, .ld none (.t 25)⟩,
       ⟨(some 27), none, .fa 2 (.t 3)⟩,
       ⟨(some 28), none, .ld none (.t 27)⟩,
       ⟨(some 29), none, .bin .lss (.t 26) (.t 28)⟩,
       ⟨(some 4), none, .mv (.t 29)⟩])
     .ret))))
def vec_Less.r : List Rr := [.tmp 4]
abbrev vec_Less.n : Nat := 30
def weld_before.c : C :=
 (.seq
  (.reg [
    ⟨(some 2), none, .box (.t 0)⟩,
    ⟨(some 3), none, .box (.t 1)⟩,
    ⟨(some 4), none, .mv (.c (.b false))⟩])
  (.seq
   (.seq
    (.reg [
      ⟨(some 5), none, .fa 0 (.t 2)⟩,
      ⟨(some 6), none, .ld none (.t 5)⟩,
      ⟨(some 7), none, .fa 0 (.t 3)⟩,
      ⟨(some 8), none, .ld none (.t 7)⟩,
      ⟨(some 9), none, .bin .neq (.t 6) (.t 8)⟩])
    (.ite (.t 9)
     (.seq
      (.reg [
        ⟨(some 10), none, .fa 0 (.t 2)⟩,
        ⟨(some 11), none, .ld none (.t 10)⟩,
        ⟨(some 12), none, .fa 0 (.t 3)⟩,
        ⟨(some 13), none, .ld none (.t 12)⟩,
        ⟨(some 14), none, .bin .lss (.t 11) (.t 13)⟩,
        ⟨(some 4), none, .mv (.t 14)⟩])
      .ret)
     .skip))
   (.seq
    (.seq
     (.reg [
       ⟨(some 15), none, .fa 1 (.t 2)⟩,
       ⟨(some 16), none, .ld none (.t 15)⟩,
       ⟨(some 17), none, .fa 1 (.t 3)⟩,
       ⟨(some 18), none, .ld none (.t 17)⟩,
       ⟨(some 19), none, .bin .neq (.t 16) (.t 18)⟩])
     (.ite (.t 19)
      (.seq
       (.reg [
         ⟨(some 20), none, .fa 1 (.t 2)⟩,
         ⟨(some 21), none, .ld none (.t 20)⟩,
         ⟨(some 22), none, .fa 1 (.t 3)⟩,
         ⟨(some 23), none, .ld none (.t 22)⟩,
         ⟨(some 24), none, .bin .lss (.t 21) (.t 23)⟩,
         ⟨(some 4), none, .mv (.t 24)⟩])
       .ret)
      .skip))
    (.seq
     (.reg [
       ⟨(some 25), none, .fa 2 (.t 2)⟩,
       ⟨(some 26), none, .ld none (.t 25)⟩,
       ⟨(some 27), none, .fa 2 (.t 3)⟩,
       ⟨(some 28), none, .ld none (.t 27)⟩,
       ⟨(some 29), none, .bin .lss (.t 26) (.t 28)⟩,
       ⟨(some 4), none, .mv (.t 29)⟩])
     .ret))))
def weld_before.r : List Rr := [.tmp 4]
abbrev weld_before.n : Nat := 30
def vec_Sub.c (vec_Valid : FuncId) : C :=
 (.seq
  (.reg [
    ⟨(some 2), none, .box (.t 0)⟩,
    ⟨(some 3), none, .box (.t 1)⟩,
    ⟨(some 4), none, .alloc [(.i .i64 0), (.i .i64 0), (.i .i64 0)]⟩])
  (.seq
   (.seq
    (.reg [
      ⟨(some 5), none, .ld (some 3) (.t 2)⟩,
      ⟨(some 6), none, .call vec_Valid [(.t 5)]⟩,
      ⟨(some 7), none, .un .not (.t 6)⟩,
      ⟨(some 8), none, .mv (.t 7)⟩,
      ⟨(some 9), (some (8, false)), .ld (some 3) (.t 3)⟩,
      ⟨(some 10), (some (8, false)), .call vec_Valid [(.t 9)]⟩,
      ⟨(some 11), (some (8, false)), .un .not (.t 10)⟩,
      ⟨(some 12), none, .pick (.t 8) (.c (.b true)) (.t 11)⟩])
    (.ite (.t 12)
     (.seq
      (.reg [
        ⟨(some 13), none, .build [(.i .i64 0), (.i .i64 0), (.i .i64 0)] []⟩,
        ⟨none, none, .st 3 (.t 4) (.t 13)⟩])
      .ret)
     .skip))
   (.seq
    (.reg [
      ⟨(some 14), none, .fa 0 (.t 2)⟩,
      ⟨(some 15), none, .ld none (.t 14)⟩,
      ⟨(some 16), none, .fa 0 (.t 3)⟩,
      ⟨(some 17), none, .ld none (.t 16)⟩,
      ⟨(some 18), none, .bin .sub (.t 15) (.t 17)⟩,
      ⟨(some 19), none, .fa 1 (.t 2)⟩,
      ⟨(some 20), none, .ld none (.t 19)⟩,
      ⟨(some 21), none, .fa 1 (.t 3)⟩,
      ⟨(some 22), none, .ld none (.t 21)⟩,
      ⟨(some 23), none, .bin .sub (.t 20) (.t 22)⟩,
      ⟨(some 24), none, .fa 2 (.t 2)⟩,
      ⟨(some 25), none, .ld none (.t 24)⟩,
      ⟨(some 26), none, .fa 2 (.t 3)⟩,
      ⟨(some 27), none, .ld none (.t 26)⟩,
      ⟨(some 28), none, .bin .sub (.t 25) (.t 27)⟩,
      ⟨(some 29), none, .build [(.i .i64 0), (.i .i64 0), (.i .i64 0)] [(0, 1, (.t 18)), (1, 1, (.t 23)), (2, 1, (.t 28))]⟩,
      ⟨none, none, .st 3 (.t 4) (.t 29)⟩])
    .ret)))
def vec_Sub.r : List Rr := [.cell 4 (some 3)]
abbrev vec_Sub.n : Nat := 30
def ref04_Cross.c (ref04_small : FuncId) : C :=
 (.seq
  (.reg [
    ⟨(some 2), none, .box (.t 0)⟩,
    ⟨(some 3), none, .box (.t 1)⟩,
    ⟨(some 4), none, .alloc [(.i .i64 0), (.i .i64 0), (.i .i64 0)]⟩])
  (.seq
   (.seq
    (.reg [
      ⟨(some 5), none, .ld (some 3) (.t 2)⟩,
      ⟨(some 6), none, .call ref04_small [(.t 5)]⟩,
      ⟨(some 7), none, .un .not (.t 6)⟩,
      ⟨(some 8), none, .mv (.t 7)⟩,
      ⟨(some 9), (some (8, false)), .ld (some 3) (.t 3)⟩,
      ⟨(some 10), (some (8, false)), .call ref04_small [(.t 9)]⟩,
      ⟨(some 11), (some (8, false)), .un .not (.t 10)⟩,
      ⟨(some 12), none, .pick (.t 8) (.c (.b true)) (.t 11)⟩])
    (.ite (.t 12)
     (.seq
      (.reg [
        ⟨(some 13), none, .build [(.i .i64 0), (.i .i64 0), (.i .i64 0)] []⟩,
        ⟨none, none, .st 3 (.t 4) (.t 13)⟩])
      .ret)
     .skip))
   (.seq
    (.reg [
      ⟨(some 14), none, .fa 1 (.t 2)⟩,
      ⟨(some 15), none, .ld none (.t 14)⟩,
      ⟨(some 16), none, .fa 2 (.t 3)⟩,
      ⟨(some 17), none, .ld none (.t 16)⟩,
      ⟨(some 18), none, .bin .mul (.t 15) (.t 17)⟩,
      ⟨(some 19), none, .fa 2 (.t 2)⟩,
      ⟨(some 20), none, .ld none (.t 19)⟩,
      ⟨(some 21), none, .fa 1 (.t 3)⟩,
      ⟨(some 22), none, .ld none (.t 21)⟩,
      ⟨(some 23), none, .bin .mul (.t 20) (.t 22)⟩,
      ⟨(some 24), none, .bin .sub (.t 18) (.t 23)⟩,
      ⟨(some 25), none, .fa 2 (.t 2)⟩,
      ⟨(some 26), none, .ld none (.t 25)⟩,
      ⟨(some 27), none, .fa 0 (.t 3)⟩,
      ⟨(some 28), none, .ld none (.t 27)⟩,
      ⟨(some 29), none, .bin .mul (.t 26) (.t 28)⟩,
      ⟨(some 30), none, .fa 0 (.t 2)⟩,
      ⟨(some 31), none, .ld none (.t 30)⟩,
      ⟨(some 32), none, .fa 2 (.t 3)⟩,
      ⟨(some 33), none, .ld none (.t 32)⟩,
      ⟨(some 34), none, .bin .mul (.t 31) (.t 33)⟩,
      ⟨(some 35), none, .bin .sub (.t 29) (.t 34)⟩,
      ⟨(some 36), none, .fa 0 (.t 2)⟩,
      ⟨(some 37), none, .ld none (.t 36)⟩,
      ⟨(some 38), none, .fa 1 (.t 3)⟩,
      ⟨(some 39), none, .ld none (.t 38)⟩,
      ⟨(some 40), none, .bin .mul (.t 37) (.t 39)⟩,
      ⟨(some 41), none, .fa 1 (.t 2)⟩,
      ⟨(some 42), none, .ld none (.t 41)⟩,
      ⟨(some 43), none, .fa 0 (.t 3)⟩,
      ⟨(some 44), none, .ld none (.t 43)⟩,
      ⟨(some 45), none, .bin .mul (.t 42) (.t 44)⟩,
      ⟨(some 46), none, .bin .sub (.t 40) (.t 45)⟩,
      ⟨(some 47), none, .build [(.i .i64 0), (.i .i64 0), (.i .i64 0)] [(0, 1, (.t 24)), (1, 1, (.t 35)), (2, 1, (.t 46))]⟩,
      ⟨none, none, .st 3 (.t 4) (.t 47)⟩])
    .ret)))
def ref04_Cross.r : List Rr := [.cell 4 (some 3)]
abbrev ref04_Cross.n : Nat := 48
def ref04_Sub.c (ref04_Valid : FuncId) : C :=
 (.seq
  (.reg [
    ⟨(some 2), none, .box (.t 0)⟩,
    ⟨(some 3), none, .box (.t 1)⟩,
    ⟨(some 4), none, .alloc [(.i .i64 0), (.i .i64 0), (.i .i64 0)]⟩])
  (.seq
   (.seq
    (.reg [
      ⟨(some 5), none, .ld (some 3) (.t 2)⟩,
      ⟨(some 6), none, .call ref04_Valid [(.t 5)]⟩,
      ⟨(some 7), none, .un .not (.t 6)⟩,
      ⟨(some 8), none, .mv (.t 7)⟩,
      ⟨(some 9), (some (8, false)), .ld (some 3) (.t 3)⟩,
      ⟨(some 10), (some (8, false)), .call ref04_Valid [(.t 9)]⟩,
      ⟨(some 11), (some (8, false)), .un .not (.t 10)⟩,
      ⟨(some 12), none, .pick (.t 8) (.c (.b true)) (.t 11)⟩])
    (.ite (.t 12)
     (.seq
      (.reg [
        ⟨(some 13), none, .build [(.i .i64 0), (.i .i64 0), (.i .i64 0)] []⟩,
        ⟨none, none, .st 3 (.t 4) (.t 13)⟩])
      .ret)
     .skip))
   (.seq
    (.reg [
      ⟨(some 14), none, .fa 0 (.t 2)⟩,
      ⟨(some 15), none, .ld none (.t 14)⟩,
      ⟨(some 16), none, .fa 0 (.t 3)⟩,
      ⟨(some 17), none, .ld none (.t 16)⟩,
      ⟨(some 18), none, .bin .sub (.t 15) (.t 17)⟩,
      ⟨(some 19), none, .fa 1 (.t 2)⟩,
      ⟨(some 20), none, .ld none (.t 19)⟩,
      ⟨(some 21), none, .fa 1 (.t 3)⟩,
      ⟨(some 22), none, .ld none (.t 21)⟩,
      ⟨(some 23), none, .bin .sub (.t 20) (.t 22)⟩,
      ⟨(some 24), none, .fa 2 (.t 2)⟩,
      ⟨(some 25), none, .ld none (.t 24)⟩,
      ⟨(some 26), none, .fa 2 (.t 3)⟩,
      ⟨(some 27), none, .ld none (.t 26)⟩,
      ⟨(some 28), none, .bin .sub (.t 25) (.t 27)⟩,
      ⟨(some 29), none, .build [(.i .i64 0), (.i .i64 0), (.i .i64 0)] [(0, 1, (.t 18)), (1, 1, (.t 23)), (2, 1, (.t 28))]⟩,
      ⟨none, none, .st 3 (.t 4) (.t 29)⟩])
    .ret)))
def ref04_Sub.r : List Rr := [.cell 4 (some 3)]
abbrev ref04_Sub.n : Nat := 30
def ref04_small.c (ref04_within : FuncId) : C :=
 (.seq
  (.reg [
    ⟨(some 1), none, .box (.t 0)⟩,
    ⟨(some 2), none, .mv (.c (.b false))⟩])
  (.seq
   (.reg [
     ⟨(some 3), none, .ld (some 3) (.t 1)⟩,
     ⟨(some 4), none, .call ref04_within [(.t 3), (.c (.i .i64 131072))]⟩,
     ⟨(some 2), none, .mv (.t 4)⟩])
   .ret))
def ref04_small.r : List Rr := [.tmp 2]
abbrev ref04_small.n : Nat := 5

end Go.Abs

