/- The code of functions of the program, the functions that they call left open. -/
import Derived.Test.YtahpclonmobkiaaGoClone
set_option linter.unusedVariables false
set_option linter.unusedSimpArgs false
namespace Go.Abs

def law11_OrientChecks.c (law11_Small orient_Coherent ref11_Coherent law11_awake : FuncId) : C :=
 (.seq
  (.reg [
    ⟨(some 1), none, .box (.t 0)⟩,
    ⟨(some 2), none, .mv (.c (.b false))⟩])
  (.seq
   (.drw [
     ⟨(some 3), none, .ld (some 2) (.t 1)⟩,
     ⟨(some 4), none, .call law11_Small [(.t 3)]⟩,
     ⟨(some 5), none, .un .not (.t 4)⟩,
     ⟨(some 6), none, .mv (.t 5)⟩,
     ⟨(some 7), (some (6, false)), .ld (some 2) (.t 1)⟩,
     ⟨(some 8), (some (6, false)), .call orient_Coherent [(.t 7)]⟩,
     ⟨(some 9), (some (6, false)), .ld (some 2) (.t 1)⟩,
     ⟨(some 10), (some (6, false)), .call ref11_Coherent [(.t 9)]⟩,
     ⟨(some 11), (some (6, false)), .eqb false (.t 8) (.t 10)⟩,
     ⟨(some 12), none, .pick (.t 6) (.c (.b true)) (.t 11)⟩,
     ⟨(some 13), none, .mv (.t 12)⟩,
     ⟨(some 14), (some (13, true)), .call law11_awake []⟩,
     ⟨(some 15), none, .pick (.t 13) (.t 14) (.c (.b false))⟩,
     ⟨(some 2), none, .mv (.t 15)⟩] [[], [], [], [], [], [], [5], [], [], [], [], [], [], []])
   .ret))
def law11_OrientChecks.r : List Rr := [.tmp 2]
abbrev law11_OrientChecks.n : Nat := 16
def law11_Small.c : C :=
 (.seq
  (.reg [
    ⟨(some 1), none, .box (.t 0)⟩,
    ⟨(some 2), none, .mv (.c (.b false))⟩])
  (.seq
   (.reg [
     ⟨(some 3), none, .fa 1 (.t 1)⟩,
     ⟨(some 4), none, .ld none (.t 3)⟩,
     ⟨(some 5), none, .len 0 (.t 4)⟩,
     ⟨(some 6), none, .bin .leq (.t 5) (.c (.i .i64 40))⟩,
     ⟨(some 7), none, .mv (.t 6)⟩,
     ⟨(some 8), (some (7, true)), .fa 0 (.t 1)⟩,
     ⟨(some 9), (some (7, true)), .ld none (.t 8)⟩,
     ⟨(some 10), (some (7, true)), .len 0 (.t 9)⟩,
     ⟨(some 11), (some (7, true)), .bin .leq (.t 10) (.c (.i .i64 60))⟩,
     ⟨(some 12), none, .pick (.t 7) (.t 11) (.c (.b false))⟩,
     ⟨(some 2), none, .mv (.t 12)⟩])
   .ret))
def law11_Small.r : List Rr := [.tmp 2]
abbrev law11_Small.n : Nat := 13
def orient_Coherent.c (mesh_Check orient_coherent : FuncId) : C :=
 (.seq
  (.reg [
    ⟨(some 1), none, .box (.t 0)⟩,
    ⟨(some 2), none, .mv (.c (.b false))⟩])
  (.seq
   (.reg [
     ⟨(some 3), none, .ld (some 2) (.t 1)⟩,
     ⟨(some 4), none, .call mesh_Check [(.t 3)]⟩,
     ⟨(some 5), none, .bin .eql (.t 4) (.c (.i .i64 0))⟩,
     ⟨(some 6), none, .mv (.t 5)⟩,
     ⟨(some 7), (some (6, true)), .fa 1 (.t 1)⟩,
     ⟨(some 8), (some (6, true)), .ld none (.t 7)⟩,
     ⟨(some 9), (some (6, true)), .call orient_coherent [(.t 8)]⟩,
     ⟨(some 10), none, .pick (.t 6) (.t 9) (.c (.b false))⟩,
     ⟨(some 2), none, .mv (.t 10)⟩])
   .ret))
def orient_Coherent.r : List Rr := [.tmp 2]
abbrev orient_Coherent.n : Nat := 11
def orient_coherent.c (orient_edges : FuncId) : C :=
 (.seq
  (.reg [
    ⟨(some 2), none, .mv (.c (.b false))⟩])
  (.seq
   (.reg [
     ⟨(some 8), none, .mkm none⟩,
     ⟨(some 3), none, .mv (.t 8)⟩])
   (.seq
    (.seq
     (.reg [
       ⟨(some 9), none, .mv (.t 0)⟩,
       ⟨(some 10), none, .len 0 (.t 9)⟩,
       ⟨(some 11), none, .mv (.c (.i .i64 0))⟩])
     (.blk 0
      (.loop
       (.seq
        (.reg [
          ⟨(some 12), none, .bin .lss (.t 11) (.t 10)⟩])
        (.seq
         (.ite (.t 12)
          .skip
          (.exit 0))
         (.seq
          (.blk 1
           (.seq
            (.reg [
              ⟨(some 13), none, .ia 3 (.t 9) (.t 11)⟩,
              ⟨(some 14), none, .ld (some 3) (.t 13)⟩,
              ⟨(some 5), none, .alloc [(.i .i64 0), (.i .i64 0), (.i .i64 0)]⟩,
              ⟨none, none, .st 3 (.t 5) (.t 14)⟩])
            (.seq
             (.reg [
               ⟨(some 15), none, .ld (some 3) (.t 5)⟩,
               ⟨(some 16), none, .call orient_edges [(.t 15)]⟩,
               ⟨(some 17), none, .len 0 (.t 16)⟩,
               ⟨(some 18), none, .mv (.c (.i .i64 0))⟩])
             (.blk 2
              (.loop
               (.seq
                (.reg [
                  ⟨(some 19), none, .bin .lss (.t 18) (.t 17)⟩])
                (.seq
                 (.ite (.t 19)
                  .skip
                  (.exit 2))
                 (.seq
                  (.blk 3
                   (.seq
                    (.reg [
                      ⟨(some 20), none, .ia 2 (.t 16) (.t 18)⟩,
                      ⟨(some 21), none, .ld (some 2) (.t 20)⟩,
                      ⟨(some 7), none, .alloc [(.i .i64 0), (.i .i64 0)]⟩,
                      ⟨none, none, .st 2 (.t 7) (.t 21)⟩])
                    (.seq
                     (.reg [
                       ⟨(some 22), none, .mv (.t 3)⟩,
                       ⟨(some 23), none, .ld (some 2) (.t 7)⟩,
                       ⟨none, none, .eqa [1, 1] false (.t 23) (.t 23)⟩,
                       ⟨(some 24), none, .lk [1, 1] (.i .i64 0) false (.t 22) (.t 23)⟩,
                       ⟨(some 25), none, .bin .add (.t 24) (.c (.i .i64 1))⟩,
                       ⟨(some 26), none, .ment [1, 1] (.i .i64 0) (.t 22) (.t 23)⟩,
                       ⟨(some 27), none, .ext (.t 26) 1⟩,
                       ⟨none, none, .est (.t 22) (.t 27) (.t 25)⟩])
                     (.seq
                      (.reg [
                        ⟨(some 28), none, .mv (.t 3)⟩,
                        ⟨(some 29), none, .ld (some 2) (.t 7)⟩,
                        ⟨(some 30), none, .lk [1, 1] (.i .i64 0) false (.t 28) (.t 29)⟩,
                        ⟨(some 31), none, .bin .gtr (.t 30) (.c (.i .i64 1))⟩])
                      (.ite (.t 31)
                       (.seq
                        (.reg [
                          ⟨(some 2), none, .mv (.c (.b false))⟩])
                        .ret)
                       .skip)))))
                  (.reg [
                    ⟨(some 32), none, .bin .add (.t 18) (.c (.i .i64 1))⟩,
                    ⟨(some 18), none, .mv (.t 32)⟩])))))))))
          (.reg [
            ⟨(some 33), none, .bin .add (.t 11) (.c (.i .i64 1))⟩,
            ⟨(some 11), none, .mv (.t 33)⟩])))))))
    (.seq
     (.reg [
       ⟨(some 2), none, .mv (.c (.b true))⟩])
     .ret))))
def orient_coherent.r : List Rr := [.tmp 2]
abbrev orient_coherent.n : Nat := 34
def orient_edges.c : C :=
 (.seq
  (.reg [
    ⟨(some 1), none, .box (.t 0)⟩,
    ⟨(some 2), none, .mv (.c .nil)⟩])
  (.seq
   (.reg [
     ⟨(some 3), none, .mv (.c .nil)⟩])
   (.seq
    (.seq
     (.reg [
       ⟨(some 6), none, .fa 0 (.t 1)⟩,
       ⟨(some 7), none, .ld none (.t 6)⟩,
       ⟨(some 8), none, .fa 1 (.t 1)⟩,
       ⟨(some 9), none, .ld none (.t 8)⟩,
       ⟨(some 10), none, .build [(.i .i64 0), (.i .i64 0)] [(0, 1, (.t 7)), (1, 1, (.t 9))]⟩,
       ⟨(some 11), none, .fa 1 (.t 1)⟩,
       ⟨(some 12), none, .ld none (.t 11)⟩,
       ⟨(some 13), none, .fa 2 (.t 1)⟩,
       ⟨(some 14), none, .ld none (.t 13)⟩,
       ⟨(some 15), none, .build [(.i .i64 0), (.i .i64 0)] [(0, 1, (.t 12)), (1, 1, (.t 14))]⟩,
       ⟨(some 16), none, .fa 2 (.t 1)⟩,
       ⟨(some 17), none, .ld none (.t 16)⟩,
       ⟨(some 18), none, .fa 0 (.t 1)⟩,
       ⟨(some 19), none, .ld none (.t 18)⟩,
       ⟨(some 20), none, .build [(.i .i64 0), (.i .i64 0)] [(0, 1, (.t 17)), (1, 1, (.t 19))]⟩,
       ⟨(some 21), none, .build [(.i .i64 0), (.i .i64 0), (.i .i64 0), (.i .i64 0), (.i .i64 0), (.i .i64 0)] [(0, 2, (.t 10)), (2, 2, (.t 15)), (4, 2, (.t 20))]⟩,
       ⟨(some 22), none, .mv (.c (.i .i64 0))⟩])
     (.blk 0
      (.loop
       (.seq
        (.reg [
          ⟨(some 23), none, .bin .lss (.t 22) (.c (.i .i64 3))⟩])
        (.seq
         (.ite (.t 23)
          .skip
          (.exit 0))
         (.seq
          (.blk 1
           (.seq
            (.reg [
              ⟨(some 24), none, .ix 3 2 (some 2) (.t 21) (.t 22)⟩,
              ⟨(some 5), none, .alloc [(.i .i64 0), (.i .i64 0)]⟩,
              ⟨none, none, .st 2 (.t 5) (.t 24)⟩])
            (.seq
             (.reg [
               ⟨(some 25), none, .fa 0 (.t 5)⟩,
               ⟨(some 26), none, .ld none (.t 25)⟩,
               ⟨(some 27), none, .fa 1 (.t 5)⟩,
               ⟨(some 28), none, .ld none (.t 27)⟩,
               ⟨(some 29), none, .bin .neq (.t 26) (.t 28)⟩])
             (.ite (.t 29)
              (.reg [
                ⟨(some 30), none, .mv (.t 3)⟩,
                ⟨(some 31), none, .ld (some 2) (.t 5)⟩,
                ⟨(some 32), none, .bsi 2 1 [(.i .i64 0), (.i .i64 0)] [(0, (.t 31))]⟩,
                ⟨(some 33), none, .app 2 16 (.t 30) (.t 32)⟩,
                ⟨(some 3), none, .mv (.t 33)⟩])
              .skip))))
          (.reg [
            ⟨(some 34), none, .bin .add (.t 22) (.c (.i .i64 1))⟩,
            ⟨(some 22), none, .mv (.t 34)⟩])))))))
    (.seq
     (.reg [
       ⟨(some 35), none, .mv (.t 3)⟩,
       ⟨(some 2), none, .mv (.t 35)⟩])
     .ret))))
def orient_edges.r : List Rr := [.tmp 2]
abbrev orient_edges.n : Nat := 36
def ref11_Coherent.c (ref07_Check ref11_coherent : FuncId) : C :=
 (.seq
  (.reg [
    ⟨(some 1), none, .box (.t 0)⟩,
    ⟨(some 2), none, .mv (.c (.b false))⟩])
  (.seq
   (.reg [
     ⟨(some 3), none, .ld (some 2) (.t 1)⟩,
     ⟨(some 4), none, .call ref07_Check [(.t 3)]⟩,
     ⟨(some 5), none, .bin .eql (.t 4) (.c (.i .i64 0))⟩,
     ⟨(some 6), none, .mv (.t 5)⟩,
     ⟨(some 7), (some (6, true)), .fa 1 (.t 1)⟩,
     ⟨(some 8), (some (6, true)), .ld none (.t 7)⟩,
     ⟨(some 9), (some (6, true)), .call ref11_coherent [(.t 8)]⟩,
     ⟨(some 10), none, .pick (.t 6) (.t 9) (.c (.b false))⟩,
     ⟨(some 2), none, .mv (.t 10)⟩])
   .ret))
def ref11_Coherent.r : List Rr := [.tmp 2]
abbrev ref11_Coherent.n : Nat := 11
def ref11_coherent.c (ref11_uses : FuncId) : C :=
 (.seq
  (.reg [
    ⟨(some 2), none, .mv (.c (.b false))⟩])
  (.seq
   (.reg [
     ⟨(some 3), none, .mv (.c .nil)⟩])
   (.seq
    (.seq
     (.reg [
       ⟨(some 4), none, .mv (.c (.i .i64 0))⟩])
     (.blk 0
      (.loop
       (.seq
        (.seq
         (.reg [
           ⟨(some 7), none, .mv (.t 4)⟩,
           ⟨(some 8), none, .mv (.t 0)⟩,
           ⟨(some 9), none, .len 0 (.t 8)⟩,
           ⟨(some 10), none, .bin .lss (.t 7) (.t 9)⟩])
         (.ite (.t 10)
          .skip
          (.exit 0)))
        (.seq
         (.blk 1
          (.reg [
            ⟨(some 13), none, .mv (.t 3)⟩,
            ⟨(some 14), none, .mv (.t 0)⟩,
            ⟨(some 15), none, .mv (.t 4)⟩,
            ⟨(some 16), none, .ia 3 (.t 14) (.t 15)⟩,
            ⟨(some 17), none, .ld (some 3) (.t 16)⟩,
            ⟨(some 18), none, .call ref11_uses [(.t 17)]⟩,
            ⟨(some 19), none, .app 2 16 (.t 13) (.t 18)⟩,
            ⟨(some 3), none, .mv (.t 19)⟩]))
         (.reg [
           ⟨(some 11), none, .mv (.t 4)⟩,
           ⟨(some 12), none, .bin .add (.t 11) (.c (.i .i64 1))⟩,
           ⟨(some 4), none, .mv (.t 12)⟩]))))))
    (.seq
     (.seq
      (.reg [
        ⟨(some 5), none, .mv (.c (.i .i64 0))⟩])
      (.blk 2
       (.loop
        (.seq
         (.seq
          (.reg [
            ⟨(some 20), none, .mv (.t 5)⟩,
            ⟨(some 21), none, .mv (.t 3)⟩,
            ⟨(some 22), none, .len 0 (.t 21)⟩,
            ⟨(some 23), none, .bin .lss (.t 20) (.t 22)⟩])
          (.ite (.t 23)
           .skip
           (.exit 2)))
         (.seq
          (.blk 3
           (.seq
            (.reg [
              ⟨(some 6), none, .mv (.c (.i .i64 0))⟩])
            (.blk 4
             (.loop
              (.seq
               (.seq
                (.reg [
                  ⟨(some 26), none, .mv (.t 6)⟩,
                  ⟨(some 27), none, .mv (.t 5)⟩,
                  ⟨(some 28), none, .bin .lss (.t 26) (.t 27)⟩])
                (.ite (.t 28)
                 .skip
                 (.exit 4)))
               (.seq
                (.blk 5
                 (.seq
                  (.drw [
                    ⟨(some 31), none, .mv (.t 3)⟩,
                    ⟨(some 32), none, .mv (.t 5)⟩,
                    ⟨(some 33), none, .ia 2 (.t 31) (.t 32)⟩,
                    ⟨(some 34), none, .ld (some 2) (.t 33)⟩,
                    ⟨(some 35), none, .mv (.t 3)⟩,
                    ⟨(some 36), none, .mv (.t 6)⟩,
                    ⟨(some 37), none, .ia 2 (.t 35) (.t 36)⟩,
                    ⟨(some 38), none, .ld (some 2) (.t 37)⟩,
                    ⟨(some 39), none, .eqa [1, 1] false (.t 34) (.t 38)⟩] [])
                  (.ite (.t 39)
                   (.seq
                    (.reg [
                      ⟨(some 2), none, .mv (.c (.b false))⟩])
                    .ret)
                   .skip)))
                (.reg [
                  ⟨(some 29), none, .mv (.t 6)⟩,
                  ⟨(some 30), none, .bin .add (.t 29) (.c (.i .i64 1))⟩,
                  ⟨(some 6), none, .mv (.t 30)⟩])))))))
          (.reg [
            ⟨(some 24), none, .mv (.t 5)⟩,
            ⟨(some 25), none, .bin .add (.t 24) (.c (.i .i64 1))⟩,
            ⟨(some 5), none, .mv (.t 25)⟩]))))))
     (.seq
      (.reg [
        ⟨(some 2), none, .mv (.c (.b true))⟩])
      .ret)))))
def ref11_coherent.r : List Rr := [.tmp 2]
abbrev ref11_coherent.n : Nat := 40
def ref11_uses.c : C :=
 (.seq
  (.reg [
    ⟨(some 1), none, .box (.t 0)⟩,
    ⟨(some 2), none, .mv (.c .nil)⟩])
  (.seq
   (.reg [
     ⟨(some 6), none, .fa 0 (.t 1)⟩,
     ⟨(some 7), none, .ld none (.t 6)⟩,
     ⟨(some 8), none, .fa 1 (.t 1)⟩,
     ⟨(some 9), none, .ld none (.t 8)⟩,
     ⟨(some 10), none, .build [(.i .i64 0), (.i .i64 0)] [(0, 1, (.t 7)), (1, 1, (.t 9))]⟩,
     ⟨(some 11), none, .fa 1 (.t 1)⟩,
     ⟨(some 12), none, .ld none (.t 11)⟩,
     ⟨(some 13), none, .fa 2 (.t 1)⟩,
     ⟨(some 14), none, .ld none (.t 13)⟩,
     ⟨(some 15), none, .build [(.i .i64 0), (.i .i64 0)] [(0, 1, (.t 12)), (1, 1, (.t 14))]⟩,
     ⟨(some 16), none, .fa 2 (.t 1)⟩,
     ⟨(some 17), none, .ld none (.t 16)⟩,
     ⟨(some 18), none, .fa 0 (.t 1)⟩,
     ⟨(some 19), none, .ld none (.t 18)⟩,
     ⟨(some 20), none, .build [(.i .i64 0), (.i .i64 0)] [(0, 1, (.t 17)), (1, 1, (.t 19))]⟩,
     ⟨(some 21), none, .bso 2 3 [(.i .i64 0), (.i .i64 0)] [(0, (.t 10)), (1, (.t 15)), (2, (.t 20))]⟩,
     ⟨(some 3), none, .mv (.t 21)⟩])
   (.seq
    (.reg [
      ⟨(some 4), none, .mv (.c .nil)⟩])
    (.seq
     (.seq
      (.reg [
        ⟨(some 5), none, .mv (.c (.i .i64 0))⟩])
      (.blk 0
       (.loop
        (.seq
         (.seq
          (.reg [
            ⟨(some 22), none, .mv (.t 5)⟩,
            ⟨(some 23), none, .mv (.t 3)⟩,
            ⟨(some 24), none, .len 0 (.t 23)⟩,
            ⟨(some 25), none, .bin .lss (.t 22) (.t 24)⟩])
          (.ite (.t 25)
           .skip
           (.exit 0)))
         (.seq
          (.blk 1
           (.seq
            (.drw [
              ⟨(some 28), none, .mv (.t 3)⟩,
              ⟨(some 29), none, .mv (.t 5)⟩,
              ⟨(some 30), none, .ia 2 (.t 28) (.t 29)⟩,
              ⟨(some 31), none, .fa 0 (.t 30)⟩,
              ⟨(some 32), none, .ld none (.t 31)⟩,
              ⟨(some 33), none, .mv (.t 3)⟩,
              ⟨(some 34), none, .mv (.t 5)⟩,
              ⟨(some 35), none, .ia 2 (.t 33) (.t 34)⟩,
              ⟨(some 36), none, .fa 1 (.t 35)⟩,
              ⟨(some 37), none, .ld none (.t 36)⟩,
              ⟨(some 38), none, .bin .neq (.t 32) (.t 37)⟩] [])
            (.ite (.t 38)
             (.reg [
               ⟨(some 39), none, .mv (.t 4)⟩,
               ⟨(some 40), none, .mv (.t 3)⟩,
               ⟨(some 41), none, .mv (.t 5)⟩,
               ⟨(some 42), none, .ia 2 (.t 40) (.t 41)⟩,
               ⟨(some 43), none, .ld (some 2) (.t 42)⟩,
               ⟨(some 44), none, .bsi 2 1 [(.i .i64 0), (.i .i64 0)] [(0, (.t 43))]⟩,
               ⟨(some 45), none, .app 2 16 (.t 39) (.t 44)⟩,
               ⟨(some 4), none, .mv (.t 45)⟩])
             .skip)))
          (.reg [
            ⟨(some 26), none, .mv (.t 5)⟩,
            ⟨(some 27), none, .bin .add (.t 26) (.c (.i .i64 1))⟩,
            ⟨(some 5), none, .mv (.t 27)⟩]))))))
     (.seq
      (.reg [
        ⟨(some 46), none, .mv (.t 4)⟩,
        ⟨(some 2), none, .mv (.t 46)⟩])
      .ret)))))
def ref11_uses.r : List Rr := [.tmp 2]
abbrev ref11_uses.n : Nat := 47
end Go.Abs

