/- The code of functions of the program, the functions that they call left open. -/
import Derived.Test.YtlmjnmmppffhaaaGoToB
set_option linter.unusedVariables false
set_option linter.unusedSimpArgs false
namespace Go.Abs

def law12_HolesFans.c (holes_Fan ref12_Fan law12_awake : FuncId) : C :=
 (.seq
  (.reg [
    ⟨(some 2), none, .mv (.c (.b false))⟩])
  (.seq
   (.seq
    (.reg [
      ⟨(some 6), none, .mv (.t 0)⟩,
      ⟨(some 7), none, .len 0 (.t 6)⟩,
      ⟨(some 8), none, .bin .gtr (.t 7) (.c (.i .i64 40))⟩])
    (.ite (.t 8)
     (.reg [
       ⟨(some 9), none, .mv (.t 0)⟩,
       ⟨(some 10), none, .slc 1 (.t 9) none (some (.c (.i .i64 40)))⟩,
       ⟨(some 0), none, .mv (.t 10)⟩])
     .skip))
   (.seq
    (.reg [
      ⟨(some 11), none, .mv (.t 0)⟩,
      ⟨(some 12), none, .call holes_Fan [(.t 11)]⟩,
      ⟨(some 3), none, .mv (.t 12)⟩])
    (.seq
     (.reg [
       ⟨(some 13), none, .mv (.t 0)⟩,
       ⟨(some 14), none, .call ref12_Fan [(.t 13)]⟩,
       ⟨(some 4), none, .mv (.t 14)⟩])
     (.seq
      (.seq
       (.reg [
         ⟨(some 15), none, .mv (.t 3)⟩,
         ⟨(some 16), none, .len 0 (.t 15)⟩,
         ⟨(some 17), none, .mv (.t 4)⟩,
         ⟨(some 18), none, .len 0 (.t 17)⟩,
         ⟨(some 19), none, .bin .neq (.t 16) (.t 18)⟩])
       (.ite (.t 19)
        (.seq
         (.reg [
           ⟨(some 2), none, .mv (.c (.b false))⟩])
         .ret)
        .skip))
      (.seq
       (.seq
        (.reg [
          ⟨(some 5), none, .mv (.c (.i .i64 0))⟩])
        (.blk 0
         (.loop
          (.seq
           (.seq
            (.reg [
              ⟨(some 20), none, .mv (.t 5)⟩,
              ⟨(some 21), none, .mv (.t 3)⟩,
              ⟨(some 22), none, .len 0 (.t 21)⟩,
              ⟨(some 23), none, .bin .lss (.t 20) (.t 22)⟩])
            (.ite (.t 23)
             .skip
             (.exit 0)))
           (.seq
            (.blk 1
             (.seq
              (.drw [
                ⟨(some 26), none, .mv (.t 3)⟩,
                ⟨(some 27), none, .mv (.t 5)⟩,
                ⟨(some 28), none, .ia 3 (.t 26) (.t 27)⟩,
                ⟨(some 29), none, .ld (some 3) (.t 28)⟩,
                ⟨(some 30), none, .mv (.t 4)⟩,
                ⟨(some 31), none, .mv (.t 5)⟩,
                ⟨(some 32), none, .ia 3 (.t 30) (.t 31)⟩,
                ⟨(some 33), none, .ld (some 3) (.t 32)⟩,
                ⟨(some 34), none, .eqa [1, 1, 1] true (.t 29) (.t 33)⟩] [])
              (.ite (.t 34)
               (.seq
                (.reg [
                  ⟨(some 2), none, .mv (.c (.b false))⟩])
                .ret)
               .skip)))
            (.reg [
              ⟨(some 24), none, .mv (.t 5)⟩,
              ⟨(some 25), none, .bin .add (.t 24) (.c (.i .i64 1))⟩,
              ⟨(some 5), none, .mv (.t 25)⟩]))))))
       (.seq
        (.reg [
          ⟨(some 35), none, .call law12_awake []⟩,
          ⟨(some 2), none, .mv (.t 35)⟩])
        .ret)))))))
def law12_HolesFans.r : List Rr := [.tmp 2]
abbrev law12_HolesFans.n : Nat := 36
def holes_Fan.c : C :=
 (.seq
  (.reg [
    ⟨(some 2), none, .mv (.c .nil)⟩])
  (.seq
   (.reg [
     ⟨(some 3), none, .mv (.c .nil)⟩])
   (.seq
    (.seq
     (.reg [
       ⟨(some 4), none, .mv (.c (.i .i64 1))⟩])
     (.blk 0
      (.loop
       (.seq
        (.seq
         (.reg [
           ⟨(some 5), none, .mv (.t 4)⟩,
           ⟨(some 6), none, .bin .add (.t 5) (.c (.i .i64 1))⟩,
           ⟨(some 7), none, .mv (.t 0)⟩,
           ⟨(some 8), none, .len 0 (.t 7)⟩,
           ⟨(some 9), none, .bin .lss (.t 6) (.t 8)⟩])
         (.ite (.t 9)
          .skip
          (.exit 0)))
        (.seq
         (.blk 1
          (.drw [
            ⟨(some 12), none, .mv (.t 3)⟩,
            ⟨(some 13), none, .mv (.t 0)⟩,
            ⟨(some 14), none, .ia 1 (.t 13) (.c (.i .i64 0))⟩,
            ⟨(some 15), none, .ld none (.t 14)⟩,
            ⟨(some 16), none, .mv (.t 0)⟩,
            ⟨(some 17), none, .mv (.t 4)⟩,
            ⟨(some 18), none, .ia 1 (.t 16) (.t 17)⟩,
            ⟨(some 19), none, .ld none (.t 18)⟩,
            ⟨(some 20), none, .mv (.t 0)⟩,
            ⟨(some 21), none, .mv (.t 4)⟩,
            ⟨(some 22), none, .bin .add (.t 21) (.c (.i .i64 1))⟩,
            ⟨(some 23), none, .ia 1 (.t 20) (.t 22)⟩,
            ⟨(some 24), none, .ld none (.t 23)⟩,
            ⟨(some 25), none, .build [(.i .i64 0), (.i .i64 0), (.i .i64 0)] [(0, 1, (.t 15)), (1, 1, (.t 19)), (2, 1, (.t 24))]⟩,
            ⟨(some 26), none, .bsi 3 1 [(.i .i64 0), (.i .i64 0), (.i .i64 0)] [(0, (.t 25))]⟩,
            ⟨(some 27), none, .app 3 24 (.t 12) (.t 26)⟩,
            ⟨(some 3), none, .mv (.t 27)⟩] []))
         (.reg [
           ⟨(some 10), none, .mv (.t 4)⟩,
           ⟨(some 11), none, .bin .add (.t 10) (.c (.i .i64 1))⟩,
           ⟨(some 4), none, .mv (.t 11)⟩]))))))
    (.seq
     (.reg [
       ⟨(some 28), none, .mv (.t 3)⟩,
       ⟨(some 2), none, .mv (.t 28)⟩])
     .ret))))
def holes_Fan.r : List Rr := [.tmp 2]
abbrev holes_Fan.n : Nat := 29
def ref12_Fan.c : C :=
 (.seq
  (.reg [
    ⟨(some 2), none, .mv (.c .nil)⟩])
  (.seq
   (.reg [
     ⟨(some 3), none, .mv (.c .nil)⟩])
   (.seq
    (.seq
     (.reg [
       ⟨(some 4), none, .mv (.c (.i .i64 1))⟩])
     (.blk 0
      (.loop
       (.seq
        (.seq
         (.reg [
           ⟨(some 5), none, .mv (.t 4)⟩,
           ⟨(some 6), none, .bin .add (.t 5) (.c (.i .i64 1))⟩,
           ⟨(some 7), none, .mv (.t 0)⟩,
           ⟨(some 8), none, .len 0 (.t 7)⟩,
           ⟨(some 9), none, .bin .lss (.t 6) (.t 8)⟩])
         (.ite (.t 9)
          .skip
          (.exit 0)))
        (.seq
         (.blk 1
          (.drw [
            ⟨(some 12), none, .mv (.t 3)⟩,
            ⟨(some 13), none, .mv (.t 0)⟩,
            ⟨(some 14), none, .ia 1 (.t 13) (.c (.i .i64 0))⟩,
            ⟨(some 15), none, .ld none (.t 14)⟩,
            ⟨(some 16), none, .mv (.t 0)⟩,
            ⟨(some 17), none, .mv (.t 4)⟩,
            ⟨(some 18), none, .ia 1 (.t 16) (.t 17)⟩,
            ⟨(some 19), none, .ld none (.t 18)⟩,
            ⟨(some 20), none, .mv (.t 0)⟩,
            ⟨(some 21), none, .mv (.t 4)⟩,
            ⟨(some 22), none, .bin .add (.t 21) (.c (.i .i64 1))⟩,
            ⟨(some 23), none, .ia 1 (.t 20) (.t 22)⟩,
            ⟨(some 24), none, .ld none (.t 23)⟩,
            ⟨(some 25), none, .build [(.i .i64 0), (.i .i64 0), (.i .i64 0)] [(0, 1, (.t 15)), (1, 1, (.t 19)), (2, 1, (.t 24))]⟩,
            ⟨(some 26), none, .bsi 3 1 [(.i .i64 0), (.i .i64 0), (.i .i64 0)] [(0, (.t 25))]⟩,
            ⟨(some 27), none, .app 3 24 (.t 12) (.t 26)⟩,
            ⟨(some 3), none, .mv (.t 27)⟩] []))
         (.reg [
           ⟨(some 10), none, .mv (.t 4)⟩,
           ⟨(some 11), none, .bin .add (.t 10) (.c (.i .i64 1))⟩,
           ⟨(some 4), none, .mv (.t 11)⟩]))))))
    (.seq
     (.reg [
       ⟨(some 28), none, .mv (.t 3)⟩,
       ⟨(some 2), none, .mv (.t 28)⟩])
     .ret))))
def ref12_Fan.r : List Rr := [.tmp 2]
abbrev ref12_Fan.n : Nat := 29
def topo_Loops.c (mesh_Check topo_counted topo_Boundary topo_reverse : FuncId) : C :=
 (.seq
  (.reg [
    ⟨(some 1), none, .box (.t 0)⟩,
    ⟨(some 2), none, .mv (.c .nil)⟩,
    ⟨(some 3), none, .mv (.c (.i .i64 0))⟩])
  (.seq
   (.seq
    (.reg [
      ⟨(some 16), none, .ld (some 2) (.t 1)⟩,
      ⟨(some 17), none, .call mesh_Check [(.t 16)]⟩,
      ⟨(some 4), none, .mv (.t 17)⟩])
    (.seq
     (.reg [
       ⟨(some 18), none, .mv (.t 4)⟩,
       ⟨(some 19), none, .bin .neq (.t 18) (.c (.i .i64 0))⟩])
     (.ite (.t 19)
      (.seq
       (.reg [
         ⟨(some 20), none, .mv (.t 4)⟩,
         ⟨(some 2), none, .mv (.c .nil)⟩,
         ⟨(some 3), none, .mv (.t 20)⟩])
       .ret)
      .skip)))
   (.seq
    (.reg [
      ⟨(some 21), none, .ld (some 2) (.t 1)⟩,
      ⟨(some 22), none, .call topo_counted [(.t 21)]⟩,
      ⟨(some 5), none, .mv (.t 22)⟩])
    (.seq
     (.reg [
       ⟨(some 23), none, .ld (some 2) (.t 1)⟩,
       ⟨(some 24), none, .call topo_Boundary [(.t 23)]⟩,
       ⟨(some 6), none, .mv (.t 24)⟩])
     (.seq
      (.reg [
        ⟨(some 25), none, .mkm none⟩,
        ⟨(some 7), none, .mv (.t 25)⟩])
      (.seq
       (.seq
        (.reg [
          ⟨(some 26), none, .mv (.t 6)⟩,
          ⟨(some 27), none, .len 0 (.t 26)⟩,
          ⟨(some 28), none, .mv (.c (.i .i64 0))⟩])
        (.blk 0
         (.loop
          (.seq
           (.reg [
             ⟨(some 29), none, .bin .lss (.t 28) (.t 27)⟩])
           (.seq
            (.ite (.t 29)
             .skip
             (.exit 0))
            (.seq
             (.blk 1
              (.seq
               (.reg [
                 ⟨(some 30), none, .mv (.t 28)⟩,
                 ⟨(some 31), none, .ia 2 (.t 26) (.t 28)⟩,
                 ⟨(some 32), none, .ld (some 2) (.t 31)⟩,
                 ⟨(some 9), none, .alloc [(.i .i64 0), (.i .i64 0)]⟩,
                 ⟨(some 8), none, .mv (.t 30)⟩,
                 ⟨none, none, .st 2 (.t 9) (.t 32)⟩])
               (.seq
                (.seq
                 (.drw [
                   ⟨(some 33), none, .mv (.t 5)⟩,
                   ⟨(some 34), none, .ld (some 2) (.t 9)⟩,
                   ⟨(some 35), none, .lk [1, 1] (.i .i64 0) false (.t 33) (.t 34)⟩,
                   ⟨(some 36), none, .bin .neq (.t 35) (.c (.i .i64 1))⟩,
                   ⟨(some 37), none, .mv (.t 36)⟩,
                   ⟨(some 38), (some (37, false)), .mv (.t 5)⟩,
                   ⟨(some 39), (some (37, false)), .ld (some 2) (.t 9)⟩,
                   ⟨(some 40), (some (37, false)), .call topo_reverse [(.t 39)]⟩,
                   ⟨(some 41), (some (37, false)), .lk [1, 1] (.i .i64 0) false (.t 38) (.t 40)⟩,
                   ⟨(some 42), (some (37, false)), .bin .neq (.t 41) (.c (.i .i64 0))⟩,
                   ⟨(some 43), none, .pick (.t 37) (.c (.b true)) (.t 42)⟩,
                   ⟨(some 44), none, .mv (.t 43)⟩,
                   ⟨(some 45), (some (44, false)), .mv (.t 8)⟩,
                   ⟨(some 46), (some (44, false)), .bin .gtr (.t 45) (.c (.i .i64 0))⟩,
                   ⟨(some 47), (some (44, false)), .mv (.t 46)⟩,
                   ⟨(some 48), (some (47, true)), .mv (.t 6)⟩,
                   ⟨(some 49), (some (47, true)), .mv (.t 8)⟩,
                   ⟨(some 50), (some (47, true)), .bin .sub (.t 49) (.c (.i .i64 1))⟩,
                   ⟨(some 51), (some (47, true)), .ia 2 (.t 48) (.t 50)⟩,
                   ⟨(some 52), (some (47, true)), .fa 0 (.t 51)⟩,
                   ⟨(some 53), (some (47, true)), .ld none (.t 52)⟩,
                   ⟨(some 54), (some (47, true)), .fa 0 (.t 9)⟩,
                   ⟨(some 55), (some (47, true)), .ld none (.t 54)⟩,
                   ⟨(some 56), (some (47, true)), .bin .eql (.t 53) (.t 55)⟩,
                   ⟨(some 57), (some (44, false)), .pick (.t 47) (.t 56) (.c (.b false))⟩,
                   ⟨(some 58), none, .pick (.t 44) (.c (.b true)) (.t 57)⟩] [])
                 (.ite (.t 58)
                  (.seq
                   (.reg [
                     ⟨(some 2), none, .mv (.c .nil)⟩,
                     ⟨(some 3), none, .mv (.c (.i .i64 13))⟩])
                   .ret)
                  .skip))
                (.reg [
                  ⟨(some 59), none, .mv (.t 7)⟩,
                  ⟨(some 60), none, .fa 1 (.t 9)⟩,
                  ⟨(some 61), none, .ld none (.t 60)⟩,
                  ⟨(some 62), none, .fa 0 (.t 9)⟩,
                  ⟨(some 63), none, .ld none (.t 62)⟩,
                  ⟨none, none, .mup [1] (.t 59) (.t 61) (.t 63)⟩]))))
             (.reg [
               ⟨(some 64), none, .bin .add (.t 28) (.c (.i .i64 1))⟩,
               ⟨(some 28), none, .mv (.t 64)⟩])))))))
       (.seq
        (.reg [
          ⟨(some 10), none, .mv (.c .nil)⟩])
        (.seq
         (.reg [
           ⟨(some 65), none, .mkm none⟩,
           ⟨(some 11), none, .mv (.t 65)⟩])
         (.seq
          (.seq
           (.reg [
             ⟨(some 66), none, .mv (.t 6)⟩,
             ⟨(some 67), none, .len 0 (.t 66)⟩,
             ⟨(some 68), none, .mv (.c (.i .i64 0))⟩])
           (.blk 2
            (.loop
             (.seq
              (.reg [
                ⟨(some 69), none, .bin .lss (.t 68) (.t 67)⟩])
              (.seq
               (.ite (.t 69)
                .skip
                (.exit 2))
               (.seq
                (.blk 3
                 (.seq
                  (.reg [
                    ⟨(some 70), none, .ia 2 (.t 66) (.t 68)⟩,
                    ⟨(some 71), none, .ld (some 2) (.t 70)⟩,
                    ⟨(some 13), none, .alloc [(.i .i64 0), (.i .i64 0)]⟩,
                    ⟨none, none, .st 2 (.t 13) (.t 71)⟩])
                  (.seq
                   (.seq
                    (.reg [
                      ⟨(some 72), none, .mv (.t 11)⟩,
                      ⟨(some 73), none, .fa 0 (.t 13)⟩,
                      ⟨(some 74), none, .ld none (.t 73)⟩,
                      ⟨(some 75), none, .lk [1] (.b false) false (.t 72) (.t 74)⟩])
                    (.ite (.t 75)
                     (.exit 3)
                     .skip))
                   (.seq
                    (.reg [
                      ⟨(some 14), none, .mv (.c .nil)⟩])
                    (.seq
                     (.seq
                      (.reg [
                        ⟨(some 76), none, .fa 0 (.t 13)⟩,
                        ⟨(some 77), none, .ld none (.t 76)⟩,
                        ⟨(some 15), none, .mv (.t 77)⟩])
                      (.blk 4
                       (.loop
                        (.seq
                         (.seq
                          (.reg [
                            ⟨(some 78), none, .mv (.t 11)⟩,
                            ⟨(some 79), none, .mv (.t 15)⟩,
                            ⟨(some 80), none, .lk [1] (.b false) false (.t 78) (.t 79)⟩,
                            ⟨(some 81), none, .un .not (.t 80)⟩])
                          (.ite (.t 81)
                           .skip
                           (.exit 4)))
                         (.seq
                          (.blk 5
                           (.seq
                            (.reg [
                              ⟨(some 85), none, .mv (.t 11)⟩,
                              ⟨(some 86), none, .mv (.t 15)⟩,
                              ⟨none, none, .mup [1] (.t 85) (.t 86) (.c (.b true))⟩])
                            (.reg [
                              ⟨(some 87), none, .mv (.t 14)⟩,
                              ⟨(some 88), none, .mv (.t 15)⟩,
                              ⟨(some 89), none, .bsi 1 1 [(.i .i64 0)] [(0, (.t 88))]⟩,
                              ⟨(some 90), none, .app 1 8 (.t 87) (.t 89)⟩,
                              ⟨(some 14), none, .mv (.t 90)⟩])))
                          (.reg [
                            ⟨(some 82), none, .mv (.t 7)⟩,
                            ⟨(some 83), none, .mv (.t 15)⟩,
                            ⟨(some 84), none, .lk [1] (.i .i64 0) false (.t 82) (.t 83)⟩,
                            ⟨(some 15), none, .mv (.t 84)⟩]))))))
                     (.reg [
                       ⟨(some 91), none, .mv (.t 10)⟩,
                       ⟨(some 92), none, .mv (.t 14)⟩,
                       ⟨(some 93), none, .bso 1 1 [.nil] [(0, (.t 92))]⟩,
                       ⟨(some 94), none, .app 1 24 (.t 91) (.t 93)⟩,
                       ⟨(some 10), none, .mv (.t 94)⟩]))))))
                (.reg [
                  ⟨(some 95), none, .bin .add (.t 68) (.c (.i .i64 1))⟩,
                  ⟨(some 68), none, .mv (.t 95)⟩])))))))
          (.seq
           (.reg [
             ⟨(some 96), none, .mv (.t 10)⟩,
             ⟨(some 2), none, .mv (.t 96)⟩,
             ⟨(some 3), none, .mv (.c (.i .i64 0))⟩])
           .ret))))))))))
def topo_Loops.r : List Rr := [.tmp 2, .tmp 3]
abbrev topo_Loops.n : Nat := 97
end Go.Abs

