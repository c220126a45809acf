/- The code of functions of the program, the functions that they call left open. -/
import Derived.Test.YtahpclonmobkiaaGoLpC
set_option linter.unusedVariables false
set_option linter.unusedSimpArgs false
namespace Go.Abs

def law12_HolesFills.c (law12_few holes_Fill ref12_Fill ref07_Same law12_awake : FuncId) : C :=
 (.seq
  (.reg [
    ⟨(some 1), none, .box (.t 0)⟩,
    ⟨(some 2), none, .mv (.c (.b false))⟩])
  (.seq
   (.reg [
     ⟨(some 9), none, .ld (some 2) (.t 1)⟩,
     ⟨(some 10), none, .call law12_few [(.t 9)]⟩,
     ⟨none, none, .st 2 (.t 1) (.t 10)⟩])
   (.seq
    (.reg [
      ⟨(some 12), none, .ld (some 2) (.t 1)⟩,
      ⟨(some 13), none, .call holes_Fill [(.t 12)]⟩,
      ⟨(some 11), none, .mv (.t 13)⟩,
      ⟨(some 14), none, .ext (.t 11) 0⟩,
      ⟨(some 15), none, .ext (.t 11) 1⟩,
      ⟨(some 16), none, .ext (.t 11) 2⟩,
      ⟨(some 3), none, .alloc [.nil, .nil]⟩,
      ⟨none, none, .st 2 (.t 3) (.t 14)⟩,
      ⟨(some 4), none, .mv (.t 15)⟩,
      ⟨(some 5), none, .mv (.t 16)⟩])
    (.seq
     (.reg [
       ⟨(some 18), none, .ld (some 2) (.t 1)⟩,
       ⟨(some 19), none, .call ref12_Fill [(.t 18)]⟩,
       ⟨(some 17), none, .mv (.t 19)⟩,
       ⟨(some 20), none, .ext (.t 17) 0⟩,
       ⟨(some 21), none, .ext (.t 17) 1⟩,
       ⟨(some 22), none, .ext (.t 17) 2⟩,
       ⟨(some 6), none, .alloc [.nil, .nil]⟩,
       ⟨none, none, .st 2 (.t 6) (.t 20)⟩,
       ⟨(some 7), none, .mv (.t 21)⟩,
       ⟨(some 8), none, .mv (.t 22)⟩])
     (.seq
      (.reg [
        ⟨(some 23), none, .ld (some 2) (.t 3)⟩,
        ⟨(some 24), none, .ld (some 2) (.t 6)⟩,
        ⟨(some 25), none, .call ref07_Same [(.t 23), (.t 24)]⟩,
        ⟨(some 26), none, .mv (.t 25)⟩,
        ⟨(some 27), (some (26, true)), .mv (.t 4)⟩,
        ⟨(some 28), (some (26, true)), .mv (.t 7)⟩,
        ⟨(some 29), (some (26, true)), .bin .eql (.t 27) (.t 28)⟩,
        ⟨(some 30), none, .pick (.t 26) (.t 29) (.c (.b false))⟩,
        ⟨(some 31), none, .mv (.t 30)⟩,
        ⟨(some 32), (some (31, true)), .mv (.t 5)⟩,
        ⟨(some 33), (some (31, true)), .mv (.t 8)⟩,
        ⟨(some 34), (some (31, true)), .bin .eql (.t 32) (.t 33)⟩,
        ⟨(some 35), none, .pick (.t 31) (.t 34) (.c (.b false))⟩,
        ⟨(some 36), none, .mv (.t 35)⟩,
        ⟨(some 37), (some (36, true)), .call law12_awake []⟩,
        ⟨(some 38), none, .pick (.t 36) (.t 37) (.c (.b false))⟩,
        ⟨(some 2), none, .mv (.t 38)⟩])
      .ret)))))
def law12_HolesFills.r : List Rr := [.tmp 2]
abbrev law12_HolesFills.n : Nat := 39
def law12_HolesLoops.c (law12_few holes_Fill topo_Loops ref07_Check law12_awake : FuncId) : C :=
 (.seq
  (.reg [
    ⟨(some 1), none, .box (.t 0)⟩,
    ⟨(some 2), none, .mv (.c (.b false))⟩])
  (.seq
   (.reg [
     ⟨(some 9), none, .ld (some 2) (.t 1)⟩,
     ⟨(some 10), none, .call law12_few [(.t 9)]⟩,
     ⟨none, none, .st 2 (.t 1) (.t 10)⟩])
   (.seq
    (.reg [
      ⟨(some 12), none, .ld (some 2) (.t 1)⟩,
      ⟨(some 13), none, .call holes_Fill [(.t 12)]⟩,
      ⟨(some 11), none, .mv (.t 13)⟩,
      ⟨(some 14), none, .ext (.t 11) 0⟩,
      ⟨(some 15), none, .ext (.t 11) 1⟩,
      ⟨(some 16), none, .ext (.t 11) 2⟩,
      ⟨(some 3), none, .alloc [.nil, .nil]⟩,
      ⟨none, none, .st 2 (.t 3) (.t 14)⟩,
      ⟨(some 4), none, .mv (.t 15)⟩,
      ⟨(some 5), none, .mv (.t 16)⟩])
    (.seq
     (.reg [
       ⟨(some 18), none, .ld (some 2) (.t 1)⟩,
       ⟨(some 19), none, .call topo_Loops [(.t 18)]⟩,
       ⟨(some 17), none, .mv (.t 19)⟩,
       ⟨(some 20), none, .ext (.t 17) 0⟩,
       ⟨(some 21), none, .ext (.t 17) 1⟩,
       ⟨(some 6), none, .mv (.t 20)⟩,
       ⟨(some 7), none, .mv (.t 21)⟩])
     (.seq
      (.seq
       (.reg [
         ⟨(some 22), none, .ld (some 2) (.t 1)⟩,
         ⟨(some 23), none, .call ref07_Check [(.t 22)]⟩,
         ⟨(some 24), none, .bin .neq (.t 23) (.c (.i .i64 0))⟩,
         ⟨(some 25), none, .mv (.t 24)⟩,
         ⟨(some 26), (some (25, false)), .mv (.t 7)⟩,
         ⟨(some 27), (some (25, false)), .bin .neq (.t 26) (.c (.i .i64 0))⟩,
         ⟨(some 28), none, .pick (.t 25) (.c (.b true)) (.t 27)⟩])
       (.ite (.t 28)
        (.seq
         (.reg [
           ⟨(some 29), none, .mv (.t 5)⟩,
           ⟨(some 30), none, .bin .neq (.t 29) (.c (.i .i64 0))⟩,
           ⟨(some 31), none, .mv (.t 30)⟩,
           ⟨(some 32), (some (31, true)), .mv (.t 4)⟩,
           ⟨(some 33), (some (31, true)), .bin .eql (.t 32) (.c (.i .i64 0))⟩,
           ⟨(some 34), none, .pick (.t 31) (.t 33) (.c (.b false))⟩,
           ⟨(some 35), none, .mv (.t 34)⟩,
           ⟨(some 36), (some (35, true)), .call law12_awake []⟩,
           ⟨(some 37), none, .pick (.t 35) (.t 36) (.c (.b false))⟩,
           ⟨(some 2), none, .mv (.t 37)⟩])
         .ret)
        .skip))
      (.seq
       (.seq
        (.reg [
          ⟨(some 8), none, .mv (.c (.i .i64 0))⟩])
        (.blk 0
         (.loop
          (.seq
           (.seq
            (.reg [
              ⟨(some 38), none, .mv (.t 8)⟩,
              ⟨(some 39), none, .mv (.t 6)⟩,
              ⟨(some 40), none, .len 0 (.t 39)⟩,
              ⟨(some 41), none, .bin .lss (.t 38) (.t 40)⟩])
            (.ite (.t 41)
             .skip
             (.exit 0)))
           (.seq
            (.blk 1
             (.seq
              (.reg [
                ⟨(some 44), none, .mv (.t 6)⟩,
                ⟨(some 45), none, .mv (.t 8)⟩,
                ⟨(some 46), none, .ia 1 (.t 44) (.t 45)⟩,
                ⟨(some 47), none, .ld none (.t 46)⟩,
                ⟨(some 48), none, .len 0 (.t 47)⟩,
                ⟨(some 49), none, .bin .lss (.t 48) (.c (.i .i64 3))⟩])
              (.ite (.t 49)
               (.seq
                (.reg [
                  ⟨(some 2), none, .mv (.c (.b false))⟩])
                .ret)
               .skip)))
            (.reg [
              ⟨(some 42), none, .mv (.t 8)⟩,
              ⟨(some 43), none, .bin .add (.t 42) (.c (.i .i64 1))⟩,
              ⟨(some 8), none, .mv (.t 43)⟩]))))))
       (.seq
        (.reg [
          ⟨(some 50), none, .mv (.t 4)⟩,
          ⟨(some 51), none, .mv (.t 6)⟩,
          ⟨(some 52), none, .len 0 (.t 51)⟩,
          ⟨(some 53), none, .bin .eql (.t 50) (.t 52)⟩,
          ⟨(some 54), none, .mv (.t 53)⟩,
          ⟨(some 55), (some (54, true)), .mv (.t 5)⟩,
          ⟨(some 56), (some (54, true)), .bin .eql (.t 55) (.c (.i .i64 0))⟩,
          ⟨(some 57), none, .pick (.t 54) (.t 56) (.c (.b false))⟩,
          ⟨(some 58), none, .mv (.t 57)⟩,
          ⟨(some 59), (some (58, true)), .call law12_awake []⟩,
          ⟨(some 60), none, .pick (.t 58) (.t 59) (.c (.b false))⟩,
          ⟨(some 2), none, .mv (.t 60)⟩])
        .ret)))))))
def law12_HolesLoops.r : List Rr := [.tmp 2]
abbrev law12_HolesLoops.n : Nat := 61
def law12_HolesClose.c (law12_few holes_Fill law12_awake topo_Closed ref10_Closed ref07_Same : FuncId) : C :=
 (.seq
  (.reg [
    ⟨(some 1), none, .box (.t 0)⟩,
    ⟨(some 2), none, .mv (.c (.b false))⟩])
  (.seq
   (.reg [
     ⟨(some 10), none, .ld (some 2) (.t 1)⟩,
     ⟨(some 11), none, .call law12_few [(.t 10)]⟩,
     ⟨(some 12), none, .call holes_Fill [(.t 11)]⟩,
     ⟨(some 9), none, .mv (.t 12)⟩,
     ⟨(some 13), none, .ext (.t 9) 0⟩,
     ⟨(some 14), none, .ext (.t 9) 1⟩,
     ⟨(some 15), none, .ext (.t 9) 2⟩,
     ⟨(some 3), none, .alloc [.nil, .nil]⟩,
     ⟨none, none, .st 2 (.t 3) (.t 13)⟩,
     ⟨(some 4), none, .mv (.t 14)⟩,
     ⟨(some 5), none, .mv (.t 15)⟩])
   (.seq
    (.seq
     (.reg [
       ⟨(some 16), none, .mv (.t 5)⟩,
       ⟨(some 17), none, .bin .neq (.t 16) (.c (.i .i64 0))⟩])
     (.ite (.t 17)
      (.seq
       (.reg [
         ⟨(some 18), none, .fa 1 (.t 3)⟩,
         ⟨(some 19), none, .ld none (.t 18)⟩,
         ⟨(some 20), none, .len 0 (.t 19)⟩,
         ⟨(some 21), none, .bin .eql (.t 20) (.c (.i .i64 0))⟩,
         ⟨(some 22), none, .mv (.t 21)⟩,
         ⟨(some 23), (some (22, true)), .mv (.t 4)⟩,
         ⟨(some 24), (some (22, true)), .bin .eql (.t 23) (.c (.i .i64 0))⟩,
         ⟨(some 25), none, .pick (.t 22) (.t 24) (.c (.b false))⟩,
         ⟨(some 26), none, .mv (.t 25)⟩,
         ⟨(some 27), (some (26, true)), .call law12_awake []⟩,
         ⟨(some 28), none, .pick (.t 26) (.t 27) (.c (.b false))⟩,
         ⟨(some 2), none, .mv (.t 28)⟩])
       .ret)
      .skip))
    (.seq
     (.reg [
       ⟨(some 30), none, .ld (some 2) (.t 3)⟩,
       ⟨(some 31), none, .call holes_Fill [(.t 30)]⟩,
       ⟨(some 29), none, .mv (.t 31)⟩,
       ⟨(some 32), none, .ext (.t 29) 0⟩,
       ⟨(some 33), none, .ext (.t 29) 1⟩,
       ⟨(some 34), none, .ext (.t 29) 2⟩,
       ⟨(some 6), none, .alloc [.nil, .nil]⟩,
       ⟨none, none, .st 2 (.t 6) (.t 32)⟩,
       ⟨(some 7), none, .mv (.t 33)⟩,
       ⟨(some 8), none, .mv (.t 34)⟩])
     (.seq
      (.reg [
        ⟨(some 35), none, .ld (some 2) (.t 3)⟩,
        ⟨(some 36), none, .call topo_Closed [(.t 35)]⟩,
        ⟨(some 37), none, .mv (.t 36)⟩,
        ⟨(some 38), (some (37, true)), .ld (some 2) (.t 3)⟩,
        ⟨(some 39), (some (37, true)), .call ref10_Closed [(.t 38)]⟩,
        ⟨(some 40), none, .pick (.t 37) (.t 39) (.c (.b false))⟩,
        ⟨(some 41), none, .mv (.t 40)⟩,
        ⟨(some 42), (some (41, true)), .ld (some 2) (.t 3)⟩,
        ⟨(some 43), (some (41, true)), .ld (some 2) (.t 6)⟩,
        ⟨(some 44), (some (41, true)), .call ref07_Same [(.t 42), (.t 43)]⟩,
        ⟨(some 45), none, .pick (.t 41) (.t 44) (.c (.b false))⟩,
        ⟨(some 46), none, .mv (.t 45)⟩,
        ⟨(some 47), (some (46, true)), .mv (.t 7)⟩,
        ⟨(some 48), (some (46, true)), .bin .eql (.t 47) (.c (.i .i64 0))⟩,
        ⟨(some 49), none, .pick (.t 46) (.t 48) (.c (.b false))⟩,
        ⟨(some 50), none, .mv (.t 49)⟩,
        ⟨(some 51), (some (50, true)), .mv (.t 8)⟩,
        ⟨(some 52), (some (50, true)), .bin .eql (.t 51) (.c (.i .i64 0))⟩,
        ⟨(some 53), none, .pick (.t 50) (.t 52) (.c (.b false))⟩,
        ⟨(some 54), none, .mv (.t 53)⟩,
        ⟨(some 55), (some (54, true)), .call law12_awake []⟩,
        ⟨(some 56), none, .pick (.t 54) (.t 55) (.c (.b false))⟩,
        ⟨(some 2), none, .mv (.t 56)⟩])
      .ret)))))
def law12_HolesClose.r : List Rr := [.tmp 2]
abbrev law12_HolesClose.n : Nat := 57
def law12_HolesKeeps.c (law12_few holes_Fill orient_Coherent law12_awake ref10_Boundary ref10_Uses ref11_Coherent : FuncId) : C :=
 (.seq
  (.reg [
    ⟨(some 1), none, .box (.t 0)⟩,
    ⟨(some 2), none, .mv (.c (.b false))⟩])
  (.seq
   (.reg [
     ⟨(some 11), none, .ld (some 2) (.t 1)⟩,
     ⟨(some 12), none, .call law12_few [(.t 11)]⟩,
     ⟨none, none, .st 2 (.t 1) (.t 12)⟩])
   (.seq
    (.reg [
      ⟨(some 14), none, .ld (some 2) (.t 1)⟩,
      ⟨(some 15), none, .call holes_Fill [(.t 14)]⟩,
      ⟨(some 13), none, .mv (.t 15)⟩,
      ⟨(some 16), none, .ext (.t 13) 0⟩,
      ⟨(some 17), none, .ext (.t 13) 1⟩,
      ⟨(some 18), none, .ext (.t 13) 2⟩,
      ⟨(some 3), none, .alloc [.nil, .nil]⟩,
      ⟨none, none, .st 2 (.t 3) (.t 16)⟩,
      ⟨(some 4), none, .mv (.t 17)⟩,
      ⟨(some 5), none, .mv (.t 18)⟩])
    (.seq
     (.seq
      (.reg [
        ⟨(some 19), none, .mv (.t 5)⟩,
        ⟨(some 20), none, .bin .neq (.t 19) (.c (.i .i64 0))⟩,
        ⟨(some 21), none, .mv (.t 20)⟩,
        ⟨(some 22), (some (21, false)), .ld (some 2) (.t 1)⟩,
        ⟨(some 23), (some (21, false)), .call orient_Coherent [(.t 22)]⟩,
        ⟨(some 24), (some (21, false)), .un .not (.t 23)⟩,
        ⟨(some 25), none, .pick (.t 21) (.c (.b true)) (.t 24)⟩])
      (.ite (.t 25)
       (.seq
        (.reg [
          ⟨(some 26), none, .call law12_awake []⟩,
          ⟨(some 2), none, .mv (.t 26)⟩])
        .ret)
       .skip))
     (.seq
      (.seq
       (.reg [
         ⟨(some 27), none, .fa 1 (.t 3)⟩,
         ⟨(some 28), none, .ld none (.t 27)⟩,
         ⟨(some 29), none, .len 0 (.t 28)⟩,
         ⟨(some 30), none, .fa 1 (.t 1)⟩,
         ⟨(some 31), none, .ld none (.t 30)⟩,
         ⟨(some 32), none, .len 0 (.t 31)⟩,
         ⟨(some 33), none, .bin .lss (.t 29) (.t 32)⟩])
       (.ite (.t 33)
        (.seq
         (.reg [
           ⟨(some 2), none, .mv (.c (.b false))⟩])
         .ret)
        .skip))
      (.seq
       (.seq
        (.reg [
          ⟨(some 6), none, .mv (.c (.i .i64 0))⟩])
        (.blk 0
         (.loop
          (.seq
           (.seq
            (.reg [
              ⟨(some 34), none, .mv (.t 6)⟩,
              ⟨(some 35), none, .fa 1 (.t 1)⟩,
              ⟨(some 36), none, .ld none (.t 35)⟩,
              ⟨(some 37), none, .len 0 (.t 36)⟩,
              ⟨(some 38), none, .bin .lss (.t 34) (.t 37)⟩])
            (.ite (.t 38)
             .skip
             (.exit 0)))
           (.seq
            (.blk 1
             (.seq
              (.drw [
                ⟨(some 41), none, .fa 1 (.t 3)⟩,
                ⟨(some 42), none, .ld none (.t 41)⟩,
                ⟨(some 43), none, .mv (.t 6)⟩,
                ⟨(some 44), none, .ia 3 (.t 42) (.t 43)⟩,
                ⟨(some 45), none, .ld (some 3) (.t 44)⟩,
                ⟨(some 46), none, .fa 1 (.t 1)⟩,
                ⟨(some 47), none, .ld none (.t 46)⟩,
                ⟨(some 48), none, .mv (.t 6)⟩,
                ⟨(some 49), none, .ia 3 (.t 47) (.t 48)⟩,
                ⟨(some 50), none, .ld (some 3) (.t 49)⟩,
                ⟨(some 51), none, .eqa [1, 1, 1] true (.t 45) (.t 50)⟩] [])
              (.ite (.t 51)
               (.seq
                (.reg [
                  ⟨(some 2), none, .mv (.c (.b false))⟩])
                .ret)
               .skip)))
            (.reg [
              ⟨(some 39), none, .mv (.t 6)⟩,
              ⟨(some 40), none, .bin .add (.t 39) (.c (.i .i64 1))⟩,
              ⟨(some 6), none, .mv (.t 40)⟩]))))))
       (.seq
        (.reg [
          ⟨(some 52), none, .ld (some 2) (.t 1)⟩,
          ⟨(some 53), none, .call ref10_Boundary [(.t 52)]⟩,
          ⟨(some 7), none, .mv (.t 53)⟩])
        (.seq
         (.seq
          (.reg [
            ⟨(some 8), none, .mv (.c (.i .i64 0))⟩])
          (.blk 2
           (.loop
            (.seq
             (.seq
              (.reg [
                ⟨(some 54), none, .mv (.t 8)⟩,
                ⟨(some 55), none, .mv (.t 7)⟩,
                ⟨(some 56), none, .len 0 (.t 55)⟩,
                ⟨(some 57), none, .bin .lss (.t 54) (.t 56)⟩])
              (.ite (.t 57)
               .skip
               (.exit 2)))
             (.seq
              (.blk 3
               (.seq
                (.drw [
                  ⟨(some 61), none, .ld (some 2) (.t 3)⟩,
                  ⟨(some 62), none, .mv (.t 7)⟩,
                  ⟨(some 63), none, .mv (.t 8)⟩,
                  ⟨(some 64), none, .ia 2 (.t 62) (.t 63)⟩,
                  ⟨(some 65), none, .ld (some 2) (.t 64)⟩,
                  ⟨(some 66), none, .call ref10_Uses [(.t 61), (.t 65)]⟩,
                  ⟨(some 60), none, .mv (.t 66)⟩,
                  ⟨(some 67), none, .ext (.t 60) 0⟩,
                  ⟨(some 68), none, .ext (.t 60) 1⟩,
                  ⟨(some 9), none, .mv (.t 67)⟩,
                  ⟨(some 10), none, .mv (.t 68)⟩] [])
                (.seq
                 (.reg [
                   ⟨(some 69), none, .mv (.t 9)⟩,
                   ⟨(some 70), none, .mv (.t 10)⟩,
                   ⟨(some 71), none, .bin .neq (.t 69) (.t 70)⟩,
                   ⟨(some 72), none, .mv (.t 71)⟩,
                   ⟨(some 73), (some (72, false)), .mv (.t 9)⟩,
                   ⟨(some 74), (some (72, false)), .bin .lss (.t 73) (.c (.i .i64 1))⟩,
                   ⟨(some 75), none, .pick (.t 72) (.c (.b true)) (.t 74)⟩])
                 (.ite (.t 75)
                  (.seq
                   (.reg [
                     ⟨(some 2), none, .mv (.c (.b false))⟩])
                   .ret)
                  .skip))))
              (.reg [
                ⟨(some 58), none, .mv (.t 8)⟩,
                ⟨(some 59), none, .bin .add (.t 58) (.c (.i .i64 1))⟩,
                ⟨(some 8), none, .mv (.t 59)⟩]))))))
         (.seq
          (.reg [
            ⟨(some 76), none, .ld (some 2) (.t 1)⟩,
            ⟨(some 77), none, .call ref11_Coherent [(.t 76)]⟩,
            ⟨(some 78), none, .mv (.t 77)⟩,
            ⟨(some 79), (some (78, true)), .call law12_awake []⟩,
            ⟨(some 80), none, .pick (.t 78) (.t 79) (.c (.b false))⟩,
            ⟨(some 2), none, .mv (.t 80)⟩])
          .ret)))))))))
def law12_HolesKeeps.r : List Rr := [.tmp 2]
abbrev law12_HolesKeeps.n : Nat := 81
def ref12_Fill.c (ref07_Check ref10_Loops ref12_Fan : FuncId) : C :=
 (.seq
  (.reg [
    ⟨(some 1), none, .box (.t 0)⟩,
    ⟨(some 2), none, .alloc [.nil, .nil]⟩,
    ⟨(some 3), none, .mv (.c (.i .i64 0))⟩,
    ⟨(some 4), none, .mv (.c (.i .i64 0))⟩])
  (.seq
   (.reg [
     ⟨(some 9), none, .ld (some 2) (.t 1)⟩,
     ⟨(some 10), none, .call ref07_Check [(.t 9)]⟩,
     ⟨(some 5), none, .mv (.t 10)⟩])
   (.seq
    (.seq
     (.reg [
       ⟨(some 11), none, .mv (.t 5)⟩,
       ⟨(some 12), none, .bin .neq (.t 11) (.c (.i .i64 0))⟩])
     (.ite (.t 12)
      (.seq
       (.reg [
         ⟨(some 13), none, .build [.nil, .nil] []⟩,
         ⟨(some 14), none, .mv (.t 5)⟩,
         ⟨none, none, .st 2 (.t 2) (.t 13)⟩,
         ⟨(some 3), none, .mv (.c (.i .i64 0))⟩,
         ⟨(some 4), none, .mv (.t 14)⟩])
       .ret)
      .skip))
    (.seq
     (.reg [
       ⟨(some 16), none, .ld (some 2) (.t 1)⟩,
       ⟨(some 17), none, .call ref10_Loops [(.t 16)]⟩,
       ⟨(some 15), none, .mv (.t 17)⟩,
       ⟨(some 18), none, .ext (.t 15) 0⟩,
       ⟨(some 19), none, .ext (.t 15) 1⟩,
       ⟨(some 6), none, .mv (.t 18)⟩,
       ⟨(some 5), none, .mv (.t 19)⟩])
     (.seq
      (.seq
       (.reg [
         ⟨(some 20), none, .mv (.t 5)⟩,
         ⟨(some 21), none, .bin .neq (.t 20) (.c (.i .i64 0))⟩])
       (.ite (.t 21)
        (.seq
         (.reg [
           ⟨(some 22), none, .build [.nil, .nil] []⟩,
           ⟨(some 23), none, .mv (.t 5)⟩,
           ⟨none, none, .st 2 (.t 2) (.t 22)⟩,
           ⟨(some 3), none, .mv (.c (.i .i64 0))⟩,
           ⟨(some 4), none, .mv (.t 23)⟩])
         .ret)
        .skip))
      (.seq
       (.reg [
         ⟨(some 24), none, .bso 3 0 [(.i .i64 0), (.i .i64 0), (.i .i64 0)] []⟩,
         ⟨(some 25), none, .fa 1 (.t 1)⟩,
         ⟨(some 26), none, .ld none (.t 25)⟩,
         ⟨(some 27), none, .app 3 24 (.t 24) (.t 26)⟩,
         ⟨(some 7), none, .mv (.t 27)⟩])
       (.seq
        (.seq
         (.reg [
           ⟨(some 8), none, .mv (.c (.i .i64 0))⟩])
         (.blk 0
          (.loop
           (.seq
            (.seq
             (.reg [
               ⟨(some 28), none, .mv (.t 8)⟩,
               ⟨(some 29), none, .mv (.t 6)⟩,
               ⟨(some 30), none, .len 0 (.t 29)⟩,
               ⟨(some 31), none, .bin .lss (.t 28) (.t 30)⟩])
             (.ite (.t 31)
              .skip
              (.exit 0)))
            (.seq
             (.blk 1
              (.reg [
                ⟨(some 34), none, .mv (.t 7)⟩,
                ⟨(some 35), none, .mv (.t 6)⟩,
                ⟨(some 36), none, .mv (.t 8)⟩,
                ⟨(some 37), none, .ia 1 (.t 35) (.t 36)⟩,
                ⟨(some 38), none, .ld none (.t 37)⟩,
                ⟨(some 39), none, .call ref12_Fan [(.t 38)]⟩,
                ⟨(some 40), none, .app 3 24 (.t 34) (.t 39)⟩,
                ⟨(some 7), none, .mv (.t 40)⟩]))
             (.reg [
               ⟨(some 32), none, .mv (.t 8)⟩,
               ⟨(some 33), none, .bin .add (.t 32) (.c (.i .i64 1))⟩,
               ⟨(some 8), none, .mv (.t 33)⟩]))))))
        (.seq
         (.seq
          (.reg [
            ⟨(some 41), none, .mv (.t 7)⟩,
            ⟨(some 42), none, .len 0 (.t 41)⟩,
            ⟨(some 43), none, .bin .gtr (.t 42) (.c (.i .i64 4096))⟩])
          (.ite (.t 43)
           (.seq
            (.reg [
              ⟨(some 44), none, .build [.nil, .nil] []⟩,
              ⟨none, none, .st 2 (.t 2) (.t 44)⟩,
              ⟨(some 3), none, .mv (.c (.i .i64 0))⟩,
              ⟨(some 4), none, .mv (.c (.i .i64 2))⟩])
            .ret)
           .skip))
         (.seq
          (.reg [
            ⟨(some 45), none, .bso 3 0 [(.i .i64 0), (.i .i64 0), (.i .i64 0)] []⟩,
            ⟨(some 46), none, .fa 0 (.t 1)⟩,
            ⟨(some 47), none, .ld none (.t 46)⟩,
            ⟨(some 48), none, .app 3 24 (.t 45) (.t 47)⟩,
            ⟨(some 49), none, .mv (.t 7)⟩,
            ⟨(some 50), none, .build [.nil, .nil] [(0, 1, (.t 48)), (1, 1, (.t 49))]⟩,
            ⟨(some 51), none, .mv (.t 6)⟩,
            ⟨(some 52), none, .len 0 (.t 51)⟩,
            ⟨none, none, .st 2 (.t 2) (.t 50)⟩,
            ⟨(some 3), none, .mv (.t 52)⟩,
            ⟨(some 4), none, .mv (.c (.i .i64 0))⟩])
          .ret)))))))))
def ref12_Fill.r : List Rr := [.cell 2 (some 2), .tmp 3, .tmp 4]
abbrev ref12_Fill.n : Nat := 53

end Go.Abs

