/- The code of functions of the program, the functions that they call left open. -/
import Derived.Test.YtkefjgfcbcpcbaaGoMeshC
set_option linter.unusedVariables false
set_option linter.unusedSimpArgs false
namespace Go.Abs

def section_cross.c (num_Round : FuncId) : C :=
 (.seq
  (.reg [
    ⟨(some 10), none, .mv (.c (.i .i64 0))⟩])
  (.seq
   (.reg [
     ⟨(some 14), none, .mv (.t 1)⟩,
     ⟨(some 15), none, .mv (.t 0)⟩,
     ⟨(some 16), none, .bin .sub (.t 14) (.t 15)⟩,
     ⟨(some 17), none, .mv (.t 4)⟩,
     ⟨(some 18), none, .bin .mul (.c (.i .i64 2)) (.t 17)⟩,
     ⟨(some 19), none, .bin .add (.t 18) (.c (.i .i64 1))⟩,
     ⟨(some 20), none, .mv (.t 2)⟩,
     ⟨(some 21), none, .bin .mul (.c (.i .i64 2)) (.t 20)⟩,
     ⟨(some 22), none, .bin .sub (.t 19) (.t 21)⟩,
     ⟨(some 23), none, .bin .mul (.t 16) (.t 22)⟩,
     ⟨(some 24), none, .mv (.t 3)⟩,
     ⟨(some 25), none, .mv (.t 2)⟩,
     ⟨(some 26), none, .bin .sub (.t 24) (.t 25)⟩,
     ⟨(some 27), none, .bin .mul (.c (.i .i64 2)) (.t 26)⟩,
     ⟨(some 28), none, .call num_Round [(.t 23), (.t 27)]⟩,
     ⟨(some 13), none, .mv (.t 28)⟩,
     ⟨(some 29), none, .ext (.t 13) 0⟩,
     ⟨(some 30), none, .ext (.t 13) 1⟩,
     ⟨(some 11), none, .mv (.t 29)⟩,
     ⟨(some 12), none, .mv (.t 30)⟩])
   (.seq
    (.reg [
      ⟨(some 31), none, .mv (.t 0)⟩,
      ⟨(some 32), none, .mv (.t 11)⟩,
      ⟨(some 33), none, .bin .add (.t 31) (.t 32)⟩,
      ⟨(some 10), none, .mv (.t 33)⟩])
    .ret)))
def section_cross.r : List Rr := [.tmp 10]
abbrev section_cross.n : Nat := 34
def section_Point.c (vec_Valid section_cross : FuncId) : C :=
 (.seq
  (.reg [
    ⟨(some 3), none, .box (.t 0)⟩,
    ⟨(some 4), none, .box (.t 1)⟩,
    ⟨(some 6), none, .alloc [(.i .i64 0), (.i .i64 0)]⟩,
    ⟨(some 7), none, .mv (.c (.b false))⟩])
  (.seq
   (.seq
    (.reg [
      ⟨(some 8), none, .ld (some 3) (.t 3)⟩,
      ⟨(some 9), none, .call vec_Valid [(.t 8)]⟩,
      ⟨(some 10), none, .un .not (.t 9)⟩,
      ⟨(some 11), none, .mv (.t 10)⟩,
      ⟨(some 12), (some (11, false)), .ld (some 3) (.t 4)⟩,
      ⟨(some 13), (some (11, false)), .call vec_Valid [(.t 12)]⟩,
      ⟨(some 14), (some (11, false)), .un .not (.t 13)⟩,
      ⟨(some 15), none, .pick (.t 11) (.c (.b true)) (.t 14)⟩,
      ⟨(some 16), none, .mv (.t 15)⟩,
      ⟨(some 17), (some (16, false)), .fa 2 (.t 3)⟩,
      ⟨(some 18), (some (16, false)), .ld none (.t 17)⟩,
      ⟨(some 19), (some (16, false)), .mv (.t 2)⟩,
      ⟨(some 20), (some (16, false)), .bin .gtr (.t 18) (.t 19)⟩,
      ⟨(some 21), none, .pick (.t 16) (.c (.b true)) (.t 20)⟩,
      ⟨(some 22), none, .mv (.t 21)⟩,
      ⟨(some 23), (some (22, false)), .mv (.t 2)⟩,
      ⟨(some 24), (some (22, false)), .fa 2 (.t 4)⟩,
      ⟨(some 25), (some (22, false)), .ld none (.t 24)⟩,
      ⟨(some 26), (some (22, false)), .bin .geq (.t 23) (.t 25)⟩,
      ⟨(some 27), none, .pick (.t 22) (.c (.b true)) (.t 26)⟩])
    (.ite (.t 27)
     (.seq
      (.reg [
        ⟨(some 28), none, .build [(.i .i64 0), (.i .i64 0)] []⟩,
        ⟨none, none, .st 2 (.t 6) (.t 28)⟩,
        ⟨(some 7), none, .mv (.c (.b false))⟩])
      .ret)
     .skip))
   (.seq
    (.drw [
      ⟨(some 29), none, .fa 0 (.t 3)⟩,
      ⟨(some 30), none, .ld none (.t 29)⟩,
      ⟨(some 31), none, .fa 0 (.t 4)⟩,
      ⟨(some 32), none, .ld none (.t 31)⟩,
      ⟨(some 33), none, .fa 2 (.t 3)⟩,
      ⟨(some 34), none, .ld none (.t 33)⟩,
      ⟨(some 35), none, .fa 2 (.t 4)⟩,
      ⟨(some 36), none, .ld none (.t 35)⟩,
      ⟨(some 37), none, .mv (.t 2)⟩,
      ⟨(some 38), none, .call section_cross [(.t 30), (.t 32), (.t 34), (.t 36), (.t 37)]⟩,
      ⟨(some 39), none, .fa 1 (.t 3)⟩,
      ⟨(some 40), none, .ld none (.t 39)⟩,
      ⟨(some 41), none, .fa 1 (.t 4)⟩,
      ⟨(some 42), none, .ld none (.t 41)⟩,
      ⟨(some 43), none, .fa 2 (.t 3)⟩,
      ⟨(some 44), none, .ld none (.t 43)⟩,
      ⟨(some 45), none, .fa 2 (.t 4)⟩,
      ⟨(some 46), none, .ld none (.t 45)⟩,
      ⟨(some 47), none, .mv (.t 2)⟩,
      ⟨(some 48), none, .call section_cross [(.t 40), (.t 42), (.t 44), (.t 46), (.t 47)]⟩,
      ⟨(some 49), none, .build [(.i .i64 0), (.i .i64 0)] [(0, 1, (.t 38)), (1, 1, (.t 48))]⟩,
      ⟨none, none, .st 2 (.t 6) (.t 49)⟩,
      ⟨(some 7), none, .mv (.c (.b true))⟩] [[], [], [], [], [], [], [], [], [], [], [9], [9], [9], [9], [9], [9], [9], [9], [], [], [], [], []])
    .ret)))
def section_Point.r : List Rr := [.cell 6 (some 2), .tmp 7]
abbrev section_Point.n : Nat := 50
def section_cut.c (section_Point : FuncId) : C :=
 (.seq
  (.reg [
    ⟨(some 2), none, .box (.t 0)⟩,
    ⟨(some 4), none, .alloc [(.i .i64 0), (.i .i64 0), (.i .i64 0), (.i .i64 0)]⟩,
    ⟨(some 5), none, .mv (.c (.b false))⟩])
  (.seq
   (.reg [
     ⟨(some 6), none, .alloc [(.i .i64 0), (.i .i64 0), (.i .i64 0), (.i .i64 0)]⟩])
   (.seq
    (.reg [
      ⟨(some 7), none, .mv (.c (.b false))⟩])
    (.seq
     (.seq
      (.reg [
        ⟨(some 15), none, .ld (some 9) (.t 2)⟩,
        ⟨(some 16), none, .mv (.c (.i .i64 0))⟩])
      (.blk 0
       (.loop
        (.seq
         (.reg [
           ⟨(some 17), none, .bin .lss (.t 16) (.c (.i .i64 3))⟩])
         (.seq
          (.ite (.t 17)
           .skip
           (.exit 0))
          (.seq
           (.blk 1
            (.seq
             (.reg [
               ⟨(some 18), none, .mv (.t 16)⟩,
               ⟨(some 19), none, .ix 3 3 (some 3) (.t 15) (.t 16)⟩,
               ⟨(some 9), none, .alloc [(.i .i64 0), (.i .i64 0), (.i .i64 0)]⟩,
               ⟨(some 8), none, .mv (.t 18)⟩,
               ⟨none, none, .st 3 (.t 9) (.t 19)⟩])
             (.seq
              (.reg [
                ⟨(some 20), none, .mv (.t 8)⟩,
                ⟨(some 21), none, .bin .add (.t 20) (.c (.i .i64 1))⟩,
                ⟨(some 22), none, .bin .rem (.t 21) (.c (.i .i64 3))⟩,
                ⟨(some 23), none, .iaa 3 3 (.t 2) (.t 22)⟩,
                ⟨(some 24), none, .ld (some 3) (.t 23)⟩,
                ⟨(some 10), none, .alloc [(.i .i64 0), (.i .i64 0), (.i .i64 0)]⟩,
                ⟨none, none, .st 3 (.t 10) (.t 24)⟩])
              (.seq
               (.seq
                (.reg [
                  ⟨(some 26), none, .ld (some 3) (.t 9)⟩,
                  ⟨(some 27), none, .ld (some 3) (.t 10)⟩,
                  ⟨(some 28), none, .mv (.t 1)⟩,
                  ⟨(some 29), none, .call section_Point [(.t 26), (.t 27), (.t 28)]⟩,
                  ⟨(some 25), none, .mv (.t 29)⟩,
                  ⟨(some 30), none, .ext (.t 25) 0⟩,
                  ⟨(some 31), none, .ext (.t 25) 1⟩,
                  ⟨(some 11), none, .alloc [(.i .i64 0), (.i .i64 0)]⟩,
                  ⟨none, none, .st 2 (.t 11) (.t 30)⟩,
                  ⟨(some 12), none, .mv (.t 31)⟩])
                (.seq
                 (.reg [
                   ⟨(some 32), none, .mv (.t 12)⟩])
                 (.ite (.t 32)
                  (.reg [
                    ⟨(some 33), none, .ld (some 2) (.t 11)⟩,
                    ⟨(some 34), none, .fa 2 (.t 6)⟩,
                    ⟨none, none, .st 2 (.t 34) (.t 33)⟩,
                    ⟨(some 7), none, .mv (.c (.b true))⟩])
                  .skip)))
               (.seq
                (.reg [
                  ⟨(some 36), none, .ld (some 3) (.t 10)⟩,
                  ⟨(some 37), none, .ld (some 3) (.t 9)⟩,
                  ⟨(some 38), none, .mv (.t 1)⟩,
                  ⟨(some 39), none, .call section_Point [(.t 36), (.t 37), (.t 38)]⟩,
                  ⟨(some 35), none, .mv (.t 39)⟩,
                  ⟨(some 40), none, .ext (.t 35) 0⟩,
                  ⟨(some 41), none, .ext (.t 35) 1⟩,
                  ⟨(some 13), none, .alloc [(.i .i64 0), (.i .i64 0)]⟩,
                  ⟨none, none, .st 2 (.t 13) (.t 40)⟩,
                  ⟨(some 14), none, .mv (.t 41)⟩])
                (.seq
                 (.reg [
                   ⟨(some 42), none, .mv (.t 14)⟩])
                 (.ite (.t 42)
                  (.reg [
                    ⟨(some 43), none, .ld (some 2) (.t 13)⟩,
                    ⟨(some 44), none, .fa 0 (.t 6)⟩,
                    ⟨none, none, .st 2 (.t 44) (.t 43)⟩])
                  .skip)))))))
           (.reg [
             ⟨(some 45), none, .bin .add (.t 16) (.c (.i .i64 1))⟩,
             ⟨(some 16), none, .mv (.t 45)⟩])))))))
     (.seq
      (.reg [
        ⟨(some 46), none, .ld (some 4) (.t 6)⟩,
        ⟨(some 47), none, .mv (.t 7)⟩,
        ⟨none, none, .st 4 (.t 4) (.t 46)⟩,
        ⟨(some 5), none, .mv (.t 47)⟩])
      .ret)))))
def section_cut.r : List Rr := [.cell 4 (some 4), .tmp 5]
abbrev section_cut.n : Nat := 48
def section_Cut.c (mesh_Check mesh_Corners section_cut : FuncId) : C :=
 (.seq
  (.reg [
    ⟨(some 2), none, .box (.t 0)⟩,
    ⟨(some 4), none, .mv (.c .nil)⟩,
    ⟨(some 5), none, .mv (.c (.i .i64 0))⟩])
  (.seq
   (.seq
    (.reg [
      ⟨(some 15), none, .ld (some 2) (.t 2)⟩,
      ⟨(some 16), none, .call mesh_Check [(.t 15)]⟩,
      ⟨(some 6), none, .mv (.t 16)⟩])
    (.seq
     (.reg [
       ⟨(some 17), none, .mv (.t 6)⟩,
       ⟨(some 18), none, .bin .neq (.t 17) (.c (.i .i64 0))⟩])
     (.ite (.t 18)
      (.seq
       (.reg [
         ⟨(some 19), none, .mv (.t 6)⟩,
         ⟨(some 4), none, .mv (.c .nil)⟩,
         ⟨(some 5), none, .mv (.t 19)⟩])
       .ret)
      .skip)))
   (.seq
    (.seq
     (.reg [
       ⟨(some 20), none, .mv (.t 1)⟩,
       ⟨(some 21), none, .bin .lss (.t 20) (.c (.i .i64 (-65536)))⟩,
       ⟨(some 22), none, .mv (.t 21)⟩,
       ⟨(some 23), (some (22, false)), .mv (.t 1)⟩,
       ⟨(some 24), (some (22, false)), .bin .gtr (.t 23) (.c (.i .i64 65536))⟩,
       ⟨(some 25), none, .pick (.t 22) (.c (.b true)) (.t 24)⟩])
     (.ite (.t 25)
      (.seq
       (.reg [
         ⟨(some 4), none, .mv (.c .nil)⟩,
         ⟨(some 5), none, .mv (.c (.i .i64 8))⟩])
       .ret)
      .skip))
    (.seq
     (.reg [
       ⟨(some 7), none, .mv (.c .nil)⟩])
     (.seq
      (.seq
       (.reg [
         ⟨(some 26), none, .fa 1 (.t 2)⟩,
         ⟨(some 27), none, .ld none (.t 26)⟩,
         ⟨(some 28), none, .len 0 (.t 27)⟩,
         ⟨(some 29), none, .mv (.c (.i .i64 0))⟩])
       (.blk 0
        (.loop
         (.seq
          (.reg [
            ⟨(some 30), none, .bin .lss (.t 29) (.t 28)⟩])
          (.seq
           (.ite (.t 30)
            .skip
            (.exit 0))
           (.seq
            (.blk 1
             (.seq
              (.reg [
                ⟨(some 31), none, .mv (.t 29)⟩,
                ⟨(some 8), none, .mv (.t 31)⟩])
              (.seq
               (.reg [
                 ⟨(some 33), none, .ld (some 2) (.t 2)⟩,
                 ⟨(some 34), none, .mv (.t 8)⟩,
                 ⟨(some 35), none, .call mesh_Corners [(.t 33), (.t 34)]⟩,
                 ⟨(some 32), none, .mv (.t 35)⟩,
                 ⟨(some 36), none, .ext (.t 32) 0⟩,
                 ⟨(some 37), none, .ext (.t 32) 1⟩,
                 ⟨(some 38), none, .ext (.t 32) 2⟩,
                 ⟨(some 39), none, .ext (.t 32) 3⟩,
                 ⟨(some 9), none, .alloc [(.i .i64 0), (.i .i64 0), (.i .i64 0)]⟩,
                 ⟨(some 10), none, .alloc [(.i .i64 0), (.i .i64 0), (.i .i64 0)]⟩,
                 ⟨(some 11), none, .alloc [(.i .i64 0), (.i .i64 0), (.i .i64 0)]⟩,
                 ⟨none, none, .st 3 (.t 9) (.t 36)⟩,
                 ⟨none, none, .st 3 (.t 10) (.t 37)⟩,
                 ⟨none, none, .st 3 (.t 11) (.t 38)⟩,
                 ⟨(some 12), none, .mv (.t 39)⟩])
               (.seq
                (.reg [
                  ⟨(some 41), none, .ld (some 3) (.t 9)⟩,
                  ⟨(some 42), none, .ld (some 3) (.t 10)⟩,
                  ⟨(some 43), none, .ld (some 3) (.t 11)⟩,
                  ⟨(some 44), none, .build [(.i .i64 0), (.i .i64 0), (.i .i64 0), (.i .i64 0), (.i .i64 0), (.i .i64 0), (.i .i64 0), (.i .i64 0), (.i .i64 0)] [(0, 3, (.t 41)), (3, 3, (.t 42)), (6, 3, (.t 43))]⟩,
                  ⟨(some 45), none, .mv (.t 1)⟩,
                  ⟨(some 46), none, .call section_cut [(.t 44), (.t 45)]⟩,
                  ⟨(some 40), none, .mv (.t 46)⟩,
                  ⟨(some 47), none, .ext (.t 40) 0⟩,
                  ⟨(some 48), none, .ext (.t 40) 1⟩,
                  ⟨(some 13), none, .alloc [(.i .i64 0), (.i .i64 0), (.i .i64 0), (.i .i64 0)]⟩,
                  ⟨none, none, .st 4 (.t 13) (.t 47)⟩,
                  ⟨(some 14), none, .mv (.t 48)⟩])
                (.seq
                 (.reg [
                   ⟨(some 49), none, .mv (.t 14)⟩])
                 (.ite (.t 49)
                  (.reg [
                    ⟨(some 50), none, .mv (.t 7)⟩,
                    ⟨(some 51), none, .ld (some 4) (.t 13)⟩,
                    ⟨(some 52), none, .bsi 4 1 [(.i .i64 0), (.i .i64 0), (.i .i64 0), (.i .i64 0)] [(0, (.t 51))]⟩,
                    ⟨(some 53), none, .app 4 32 (.t 50) (.t 52)⟩,
                    ⟨(some 7), none, .mv (.t 53)⟩])
                  .skip))))))
            (.reg [
              ⟨(some 54), none, .bin .add (.t 29) (.c (.i .i64 1))⟩,
              ⟨(some 29), none, .mv (.t 54)⟩])))))))
      (.seq
       (.reg [
         ⟨(some 55), none, .mv (.t 7)⟩,
         ⟨(some 4), none, .mv (.t 55)⟩,
         ⟨(some 5), none, .mv (.c (.i .i64 0))⟩])
       .ret))))))
def section_Cut.r : List Rr := [.tmp 4, .tmp 5]
abbrev section_Cut.n : Nat := 56
def ref15_rounded.c : C :=
 (.seq
  (.reg [
    ⟨(some 4), none, .mv (.c (.i .i64 0))⟩])
  (.seq
   (.reg [
     ⟨(some 8), none, .mv (.t 0)⟩,
     ⟨(some 9), none, .bin .mul (.c (.i .i64 2)) (.t 8)⟩,
     ⟨(some 10), none, .mv (.t 1)⟩,
     ⟨(some 11), none, .bin .add (.t 9) (.t 10)⟩,
     ⟨(some 12), none, .mv (.t 1)⟩,
     ⟨(some 13), none, .bin .mul (.c (.i .i64 2)) (.t 12)⟩,
     ⟨(some 5), none, .mv (.t 11)⟩,
     ⟨(some 6), none, .mv (.t 13)⟩])
   (.seq
    (.reg [
      ⟨(some 14), none, .mv (.t 5)⟩,
      ⟨(some 15), none, .mv (.t 6)⟩,
      ⟨(some 16), none, .bin .quo (.t 14) (.t 15)⟩,
      ⟨(some 7), none, .mv (.t 16)⟩])
    (.seq
     (.seq
      (.reg [
        ⟨(some 17), none, .mv (.t 5)⟩,
        ⟨(some 18), none, .mv (.t 6)⟩,
        ⟨(some 19), none, .bin .rem (.t 17) (.t 18)⟩,
        ⟨(some 20), none, .bin .lss (.t 19) (.c (.i .i64 0))⟩])
      (.ite (.t 20)
       (.reg [
         ⟨(some 21), none, .mv (.t 7)⟩,
         ⟨(some 22), none, .bin .sub (.t 21) (.c (.i .i64 1))⟩,
         ⟨(some 7), none, .mv (.t 22)⟩])
       .skip))
     (.seq
      (.reg [
        ⟨(some 23), none, .mv (.t 7)⟩,
        ⟨(some 4), none, .mv (.t 23)⟩])
      .ret)))))
def ref15_rounded.r : List Rr := [.tmp 4]
abbrev ref15_rounded.n : Nat := 24
def ref15_Point.c (ref04_Valid ref15_rounded : FuncId) : C :=
 (.seq
  (.reg [
    ⟨(some 3), none, .box (.t 0)⟩,
    ⟨(some 4), none, .box (.t 1)⟩,
    ⟨(some 6), none, .alloc [(.i .i64 0), (.i .i64 0)]⟩,
    ⟨(some 7), none, .mv (.c (.b false))⟩])
  (.seq
   (.seq
    (.reg [
      ⟨(some 10), none, .ld (some 3) (.t 3)⟩,
      ⟨(some 11), none, .call ref04_Valid [(.t 10)]⟩,
      ⟨(some 12), none, .un .not (.t 11)⟩,
      ⟨(some 13), none, .mv (.t 12)⟩,
      ⟨(some 14), (some (13, false)), .ld (some 3) (.t 4)⟩,
      ⟨(some 15), (some (13, false)), .call ref04_Valid [(.t 14)]⟩,
      ⟨(some 16), (some (13, false)), .un .not (.t 15)⟩,
      ⟨(some 17), none, .pick (.t 13) (.c (.b true)) (.t 16)⟩,
      ⟨(some 18), none, .mv (.t 17)⟩,
      ⟨(some 19), (some (18, false)), .fa 2 (.t 3)⟩,
      ⟨(some 20), (some (18, false)), .ld none (.t 19)⟩,
      ⟨(some 21), (some (18, false)), .mv (.t 2)⟩,
      ⟨(some 22), (some (18, false)), .bin .gtr (.t 20) (.t 21)⟩,
      ⟨(some 23), none, .pick (.t 18) (.c (.b true)) (.t 22)⟩,
      ⟨(some 24), none, .mv (.t 23)⟩,
      ⟨(some 25), (some (24, false)), .mv (.t 2)⟩,
      ⟨(some 26), (some (24, false)), .fa 2 (.t 4)⟩,
      ⟨(some 27), (some (24, false)), .ld none (.t 26)⟩,
      ⟨(some 28), (some (24, false)), .bin .geq (.t 25) (.t 27)⟩,
      ⟨(some 29), none, .pick (.t 24) (.c (.b true)) (.t 28)⟩])
    (.ite (.t 29)
     (.seq
      (.reg [
        ⟨(some 30), none, .build [(.i .i64 0), (.i .i64 0)] []⟩,
        ⟨none, none, .st 2 (.t 6) (.t 30)⟩,
        ⟨(some 7), none, .mv (.c (.b false))⟩])
      .ret)
     .skip))
   (.seq
    (.drw [
      ⟨(some 31), none, .mv (.t 2)⟩,
      ⟨(some 32), none, .bin .mul (.c (.i .i64 2)) (.t 31)⟩,
      ⟨(some 33), none, .bin .add (.t 32) (.c (.i .i64 1))⟩,
      ⟨(some 34), none, .fa 2 (.t 3)⟩,
      ⟨(some 35), none, .ld none (.t 34)⟩,
      ⟨(some 36), none, .bin .mul (.c (.i .i64 2)) (.t 35)⟩,
      ⟨(some 37), none, .bin .sub (.t 33) (.t 36)⟩,
      ⟨(some 38), none, .fa 2 (.t 4)⟩,
      ⟨(some 39), none, .ld none (.t 38)⟩,
      ⟨(some 40), none, .fa 2 (.t 3)⟩,
      ⟨(some 41), none, .ld none (.t 40)⟩,
      ⟨(some 42), none, .bin .sub (.t 39) (.t 41)⟩,
      ⟨(some 43), none, .bin .mul (.c (.i .i64 2)) (.t 42)⟩,
      ⟨(some 8), none, .mv (.t 37)⟩,
      ⟨(some 9), none, .mv (.t 43)⟩] [])
    (.seq
     (.drw [
       ⟨(some 44), none, .fa 0 (.t 3)⟩,
       ⟨(some 45), none, .ld none (.t 44)⟩,
       ⟨(some 46), none, .fa 0 (.t 4)⟩,
       ⟨(some 47), none, .ld none (.t 46)⟩,
       ⟨(some 48), none, .fa 0 (.t 3)⟩,
       ⟨(some 49), none, .ld none (.t 48)⟩,
       ⟨(some 50), none, .bin .sub (.t 47) (.t 49)⟩,
       ⟨(some 51), none, .mv (.t 8)⟩,
       ⟨(some 52), none, .bin .mul (.t 50) (.t 51)⟩,
       ⟨(some 53), none, .mv (.t 9)⟩,
       ⟨(some 54), none, .call ref15_rounded [(.t 52), (.t 53)]⟩,
       ⟨(some 55), none, .bin .add (.t 45) (.t 54)⟩,
       ⟨(some 56), none, .fa 1 (.t 3)⟩,
       ⟨(some 57), none, .ld none (.t 56)⟩,
       ⟨(some 58), none, .fa 1 (.t 4)⟩,
       ⟨(some 59), none, .ld none (.t 58)⟩,
       ⟨(some 60), none, .fa 1 (.t 3)⟩,
       ⟨(some 61), none, .ld none (.t 60)⟩,
       ⟨(some 62), none, .bin .sub (.t 59) (.t 61)⟩,
       ⟨(some 63), none, .mv (.t 8)⟩,
       ⟨(some 64), none, .bin .mul (.t 62) (.t 63)⟩,
       ⟨(some 65), none, .mv (.t 9)⟩,
       ⟨(some 66), none, .call ref15_rounded [(.t 64), (.t 65)]⟩,
       ⟨(some 67), none, .bin .add (.t 57) (.t 66)⟩,
       ⟨(some 68), none, .build [(.i .i64 0), (.i .i64 0)] [(0, 1, (.t 55)), (1, 1, (.t 67))]⟩,
       ⟨none, none, .st 2 (.t 6) (.t 68)⟩,
       ⟨(some 7), none, .mv (.c (.b true))⟩] [[], [], [], [], [], [], [], [], [], [], [0, 1], [], [10], [10], [10], [10], [10], [10], [], [], [], [], [0, 1, 12, 13], [], [], [], []])
     .ret))))
def ref15_Point.r : List Rr := [.cell 6 (some 2), .tmp 7]
abbrev ref15_Point.n : Nat := 69
def ref15_Cut.c (ref07_Check ref15_Point : FuncId) : C :=
 (.seq
  (.reg [
    ⟨(some 2), none, .box (.t 0)⟩,
    ⟨(some 4), none, .mv (.c .nil)⟩,
    ⟨(some 5), none, .mv (.c (.i .i64 0))⟩])
  (.seq
   (.seq
    (.reg [
      ⟨(some 17), none, .ld (some 2) (.t 2)⟩,
      ⟨(some 18), none, .call ref07_Check [(.t 17)]⟩,
      ⟨(some 6), none, .mv (.t 18)⟩])
    (.seq
     (.reg [
       ⟨(some 19), none, .mv (.t 6)⟩,
       ⟨(some 20), none, .bin .neq (.t 19) (.c (.i .i64 0))⟩])
     (.ite (.t 20)
      (.seq
       (.reg [
         ⟨(some 21), none, .mv (.t 6)⟩,
         ⟨(some 4), none, .mv (.c .nil)⟩,
         ⟨(some 5), none, .mv (.t 21)⟩])
       .ret)
      .skip)))
   (.seq
    (.seq
     (.reg [
       ⟨(some 22), none, .mv (.t 1)⟩,
       ⟨(some 23), none, .bin .lss (.t 22) (.c (.i .i64 (-65536)))⟩,
       ⟨(some 24), none, .mv (.t 23)⟩,
       ⟨(some 25), (some (24, false)), .mv (.t 1)⟩,
       ⟨(some 26), (some (24, false)), .bin .gtr (.t 25) (.c (.i .i64 65536))⟩,
       ⟨(some 27), none, .pick (.t 24) (.c (.b true)) (.t 26)⟩])
     (.ite (.t 27)
      (.seq
       (.reg [
         ⟨(some 4), none, .mv (.c .nil)⟩,
         ⟨(some 5), none, .mv (.c (.i .i64 8))⟩])
       .ret)
      .skip))
    (.seq
     (.reg [
       ⟨(some 7), none, .mv (.c .nil)⟩])
     (.seq
      (.seq
       (.reg [
         ⟨(some 8), none, .mv (.c (.i .i64 0))⟩])
       (.blk 0
        (.loop
         (.seq
          (.seq
           (.reg [
             ⟨(some 28), none, .mv (.t 8)⟩,
             ⟨(some 29), none, .fa 1 (.t 2)⟩,
             ⟨(some 30), none, .ld none (.t 29)⟩,
             ⟨(some 31), none, .len 0 (.t 30)⟩,
             ⟨(some 32), none, .bin .lss (.t 28) (.t 31)⟩])
           (.ite (.t 32)
            .skip
            (.exit 0)))
          (.seq
           (.blk 1
            (.seq
             (.drw [
               ⟨(some 35), none, .fa 0 (.t 2)⟩,
               ⟨(some 36), none, .ld none (.t 35)⟩,
               ⟨(some 37), none, .fa 1 (.t 2)⟩,
               ⟨(some 38), none, .ld none (.t 37)⟩,
               ⟨(some 39), none, .mv (.t 8)⟩,
               ⟨(some 40), none, .ia 3 (.t 38) (.t 39)⟩,
               ⟨(some 41), none, .fa 0 (.t 40)⟩,
               ⟨(some 42), none, .ld none (.t 41)⟩,
               ⟨(some 43), none, .ia 3 (.t 36) (.t 42)⟩,
               ⟨(some 44), none, .ld (some 3) (.t 43)⟩,
               ⟨(some 45), none, .fa 0 (.t 2)⟩,
               ⟨(some 46), none, .ld none (.t 45)⟩,
               ⟨(some 47), none, .fa 1 (.t 2)⟩,
               ⟨(some 48), none, .ld none (.t 47)⟩,
               ⟨(some 49), none, .mv (.t 8)⟩,
               ⟨(some 50), none, .ia 3 (.t 48) (.t 49)⟩,
               ⟨(some 51), none, .fa 1 (.t 50)⟩,
               ⟨(some 52), none, .ld none (.t 51)⟩,
               ⟨(some 53), none, .ia 3 (.t 46) (.t 52)⟩,
               ⟨(some 54), none, .ld (some 3) (.t 53)⟩,
               ⟨(some 55), none, .fa 0 (.t 2)⟩,
               ⟨(some 56), none, .ld none (.t 55)⟩,
               ⟨(some 57), none, .fa 1 (.t 2)⟩,
               ⟨(some 58), none, .ld none (.t 57)⟩,
               ⟨(some 59), none, .mv (.t 8)⟩,
               ⟨(some 60), none, .ia 3 (.t 58) (.t 59)⟩,
               ⟨(some 61), none, .fa 2 (.t 60)⟩,
               ⟨(some 62), none, .ld none (.t 61)⟩,
               ⟨(some 63), none, .ia 3 (.t 56) (.t 62)⟩,
               ⟨(some 64), none, .ld (some 3) (.t 63)⟩,
               ⟨(some 65), none, .bso 3 3 [(.i .i64 0), (.i .i64 0), (.i .i64 0)] [(0, (.t 44)), (1, (.t 54)), (2, (.t 64))]⟩,
               ⟨(some 9), none, .mv (.t 65)⟩] [])
             (.seq
              (.reg [
                ⟨(some 10), none, .alloc [(.i .i64 0), (.i .i64 0), (.i .i64 0), (.i .i64 0)]⟩])
              (.seq
               (.reg [
                 ⟨(some 11), none, .mv (.c (.b false))⟩])
               (.seq
                (.seq
                 (.reg [
                   ⟨(some 12), none, .mv (.c (.i .i64 0))⟩])
                 (.blk 2
                  (.loop
                   (.seq
                    (.seq
                     (.reg [
                       ⟨(some 66), none, .mv (.t 12)⟩,
                       ⟨(some 67), none, .bin .lss (.t 66) (.c (.i .i64 3))⟩])
                     (.ite (.t 67)
                      .skip
                      (.exit 2)))
                    (.seq
                     (.blk 3
                      (.seq
                       (.seq
                        (.drw [
                          ⟨(some 71), none, .mv (.t 9)⟩,
                          ⟨(some 72), none, .mv (.t 12)⟩,
                          ⟨(some 73), none, .ia 3 (.t 71) (.t 72)⟩,
                          ⟨(some 74), none, .ld (some 3) (.t 73)⟩,
                          ⟨(some 75), none, .mv (.t 9)⟩,
                          ⟨(some 76), none, .mv (.t 12)⟩,
                          ⟨(some 77), none, .bin .add (.t 76) (.c (.i .i64 1))⟩,
                          ⟨(some 78), none, .bin .rem (.t 77) (.c (.i .i64 3))⟩,
                          ⟨(some 79), none, .ia 3 (.t 75) (.t 78)⟩,
                          ⟨(some 80), none, .ld (some 3) (.t 79)⟩,
                          ⟨(some 81), none, .mv (.t 1)⟩,
                          ⟨(some 82), none, .call ref15_Point [(.t 74), (.t 80), (.t 81)]⟩,
                          ⟨(some 70), none, .mv (.t 82)⟩,
                          ⟨(some 83), none, .ext (.t 70) 0⟩,
                          ⟨(some 84), none, .ext (.t 70) 1⟩,
                          ⟨(some 13), none, .alloc [(.i .i64 0), (.i .i64 0)]⟩,
                          ⟨none, none, .st 2 (.t 13) (.t 83)⟩,
                          ⟨(some 14), none, .mv (.t 84)⟩] [])
                        (.seq
                         (.reg [
                           ⟨(some 85), none, .mv (.t 14)⟩])
                         (.ite (.t 85)
                          (.seq
                           (.reg [
                             ⟨(some 86), none, .ld (some 2) (.t 13)⟩,
                             ⟨(some 87), none, .fa 2 (.t 10)⟩,
                             ⟨none, none, .st 2 (.t 87) (.t 86)⟩])
                           (.reg [
                             ⟨(some 11), none, .mv (.c (.b true))⟩]))
                          .skip)))
                       (.seq
                        (.drw [
                          ⟨(some 89), none, .mv (.t 9)⟩,
                          ⟨(some 90), none, .mv (.t 12)⟩,
                          ⟨(some 91), none, .bin .add (.t 90) (.c (.i .i64 1))⟩,
                          ⟨(some 92), none, .bin .rem (.t 91) (.c (.i .i64 3))⟩,
                          ⟨(some 93), none, .ia 3 (.t 89) (.t 92)⟩,
                          ⟨(some 94), none, .ld (some 3) (.t 93)⟩,
                          ⟨(some 95), none, .mv (.t 9)⟩,
                          ⟨(some 96), none, .mv (.t 12)⟩,
                          ⟨(some 97), none, .ia 3 (.t 95) (.t 96)⟩,
                          ⟨(some 98), none, .ld (some 3) (.t 97)⟩,
                          ⟨(some 99), none, .mv (.t 1)⟩,
                          ⟨(some 100), none, .call ref15_Point [(.t 94), (.t 98), (.t 99)]⟩,
                          ⟨(some 88), none, .mv (.t 100)⟩,
                          ⟨(some 101), none, .ext (.t 88) 0⟩,
                          ⟨(some 102), none, .ext (.t 88) 1⟩,
                          ⟨(some 15), none, .alloc [(.i .i64 0), (.i .i64 0)]⟩,
                          ⟨none, none, .st 2 (.t 15) (.t 101)⟩,
                          ⟨(some 16), none, .mv (.t 102)⟩] [])
                        (.seq
                         (.reg [
                           ⟨(some 103), none, .mv (.t 16)⟩])
                         (.ite (.t 103)
                          (.reg [
                            ⟨(some 104), none, .ld (some 2) (.t 15)⟩,
                            ⟨(some 105), none, .fa 0 (.t 10)⟩,
                            ⟨none, none, .st 2 (.t 105) (.t 104)⟩])
                          .skip)))))
                     (.reg [
                       ⟨(some 68), none, .mv (.t 12)⟩,
                       ⟨(some 69), none, .bin .add (.t 68) (.c (.i .i64 1))⟩,
                       ⟨(some 12), none, .mv (.t 69)⟩]))))))
                (.seq
                 (.reg [
                   ⟨(some 106), none, .mv (.t 11)⟩])
                 (.ite (.t 106)
                  (.reg [
                    ⟨(some 107), none, .mv (.t 7)⟩,
                    ⟨(some 108), none, .ld (some 4) (.t 10)⟩,
                    ⟨(some 109), none, .bsi 4 1 [(.i .i64 0), (.i .i64 0), (.i .i64 0), (.i .i64 0)] [(0, (.t 108))]⟩,
                    ⟨(some 110), none, .app 4 32 (.t 107) (.t 109)⟩,
                    ⟨(some 7), none, .mv (.t 110)⟩])
                  .skip)))))))
           (.reg [
             ⟨(some 33), none, .mv (.t 8)⟩,
             ⟨(some 34), none, .bin .add (.t 33) (.c (.i .i64 1))⟩,
             ⟨(some 8), none, .mv (.t 34)⟩]))))))
      (.seq
       (.reg [
         ⟨(some 111), none, .mv (.t 7)⟩,
         ⟨(some 4), none, .mv (.t 111)⟩,
         ⟨(some 5), none, .mv (.c (.i .i64 0))⟩])
       .ret))))))
def ref15_Cut.r : List Rr := [.tmp 4, .tmp 5]
abbrev ref15_Cut.n : Nat := 112
def law15_Small.c : C :=
 (.seq
  (.reg [
    ⟨(some 1), none, .box (.t 0)⟩,
    ⟨(some 2), none, .mv (.c (.b false))⟩])
  (.seq
   (.reg [
     ⟨(some 3), none, .fa 1 (.t 1)⟩,
     ⟨(some 4), none, .ld none (.t 3)⟩,
     ⟨(some 5), none, .len 0 (.t 4)⟩,
     ⟨(some 6), none, .bin .leq (.t 5) (.c (.i .i64 40))⟩,
     ⟨(some 7), none, .mv (.t 6)⟩,
     ⟨(some 8), (some (7, true)), .fa 0 (.t 1)⟩,
     ⟨(some 9), (some (7, true)), .ld none (.t 8)⟩,
     ⟨(some 10), (some (7, true)), .len 0 (.t 9)⟩,
     ⟨(some 11), (some (7, true)), .bin .leq (.t 10) (.c (.i .i64 60))⟩,
     ⟨(some 12), none, .pick (.t 7) (.t 11) (.c (.b false))⟩,
     ⟨(some 2), none, .mv (.t 12)⟩])
   .ret))
def law15_Small.r : List Rr := [.tmp 2]
abbrev law15_Small.n : Nat := 13
def law15_segs.c : C :=
 (.seq
  (.reg [
    ⟨(some 4), none, .mv (.c (.b false))⟩])
  (.seq
   (.seq
    (.reg [
      ⟨(some 6), none, .mv (.t 0)⟩,
      ⟨(some 7), none, .len 0 (.t 6)⟩,
      ⟨(some 8), none, .mv (.t 1)⟩,
      ⟨(some 9), none, .len 0 (.t 8)⟩,
      ⟨(some 10), none, .bin .neq (.t 7) (.t 9)⟩])
    (.ite (.t 10)
     (.seq
      (.reg [
        ⟨(some 4), none, .mv (.c (.b false))⟩])
      .ret)
     .skip))
   (.seq
    (.seq
     (.reg [
       ⟨(some 5), none, .mv (.c (.i .i64 0))⟩])
     (.blk 0
      (.loop
       (.seq
        (.seq
         (.reg [
           ⟨(some 11), none, .mv (.t 5)⟩,
           ⟨(some 12), none, .mv (.t 0)⟩,
           ⟨(some 13), none, .len 0 (.t 12)⟩,
           ⟨(some 14), none, .bin .lss (.t 11) (.t 13)⟩])
         (.ite (.t 14)
          .skip
          (.exit 0)))
        (.seq
         (.blk 1
          (.seq
           (.drw [
             ⟨(some 17), none, .mv (.t 0)⟩,
             ⟨(some 18), none, .mv (.t 5)⟩,
             ⟨(some 19), none, .ia 4 (.t 17) (.t 18)⟩,
             ⟨(some 20), none, .ld (some 4) (.t 19)⟩,
             ⟨(some 21), none, .mv (.t 1)⟩,
             ⟨(some 22), none, .mv (.t 5)⟩,
             ⟨(some 23), none, .ia 4 (.t 21) (.t 22)⟩,
             ⟨(some 24), none, .ld (some 4) (.t 23)⟩,
             ⟨(some 25), none, .eqa [1, 1, 1, 1] true (.t 20) (.t 24)⟩] [])
           (.ite (.t 25)
            (.seq
             (.reg [
               ⟨(some 4), none, .mv (.c (.b false))⟩])
             .ret)
            .skip)))
         (.reg [
           ⟨(some 15), none, .mv (.t 5)⟩,
           ⟨(some 16), none, .bin .add (.t 15) (.c (.i .i64 1))⟩,
           ⟨(some 5), none, .mv (.t 16)⟩]))))))
    (.seq
     (.reg [
       ⟨(some 4), none, .mv (.c (.b true))⟩])
     .ret))))
def law15_segs.r : List Rr := [.tmp 4]
abbrev law15_segs.n : Nat := 26
def law15_SectionPoints.c (section_Point ref15_Point law15_awake : FuncId) : C :=
 (.seq
  (.reg [
    ⟨(some 3), none, .box (.t 0)⟩,
    ⟨(some 4), none, .box (.t 1)⟩,
    ⟨(some 6), none, .mv (.c (.b false))⟩])
  (.seq
   (.reg [
     ⟨(some 12), none, .ld (some 3) (.t 3)⟩,
     ⟨(some 13), none, .ld (some 3) (.t 4)⟩,
     ⟨(some 14), none, .mv (.t 2)⟩,
     ⟨(some 15), none, .call section_Point [(.t 12), (.t 13), (.t 14)]⟩,
     ⟨(some 11), none, .mv (.t 15)⟩,
     ⟨(some 16), none, .ext (.t 11) 0⟩,
     ⟨(some 17), none, .ext (.t 11) 1⟩,
     ⟨(some 7), none, .alloc [(.i .i64 0), (.i .i64 0)]⟩,
     ⟨none, none, .st 2 (.t 7) (.t 16)⟩,
     ⟨(some 8), none, .mv (.t 17)⟩])
   (.seq
    (.reg [
      ⟨(some 19), none, .ld (some 3) (.t 3)⟩,
      ⟨(some 20), none, .ld (some 3) (.t 4)⟩,
      ⟨(some 21), none, .mv (.t 2)⟩,
      ⟨(some 22), none, .call ref15_Point [(.t 19), (.t 20), (.t 21)]⟩,
      ⟨(some 18), none, .mv (.t 22)⟩,
      ⟨(some 23), none, .ext (.t 18) 0⟩,
      ⟨(some 24), none, .ext (.t 18) 1⟩,
      ⟨(some 9), none, .alloc [(.i .i64 0), (.i .i64 0)]⟩,
      ⟨none, none, .st 2 (.t 9) (.t 23)⟩,
      ⟨(some 10), none, .mv (.t 24)⟩])
    (.seq
     (.reg [
       ⟨(some 25), none, .ld (some 2) (.t 7)⟩,
       ⟨(some 26), none, .ld (some 2) (.t 9)⟩,
       ⟨(some 27), none, .eqa [1, 1] false (.t 25) (.t 26)⟩,
       ⟨(some 28), none, .mv (.t 27)⟩,
       ⟨(some 29), (some (28, true)), .mv (.t 8)⟩,
       ⟨(some 30), (some (28, true)), .mv (.t 10)⟩,
       ⟨(some 31), (some (28, true)), .eqb false (.t 29) (.t 30)⟩,
       ⟨(some 32), none, .pick (.t 28) (.t 31) (.c (.b false))⟩,
       ⟨(some 33), none, .mv (.t 32)⟩,
       ⟨(some 34), (some (33, true)), .call law15_awake []⟩,
       ⟨(some 35), none, .pick (.t 33) (.t 34) (.c (.b false))⟩,
       ⟨(some 6), none, .mv (.t 35)⟩])
     .ret))))
def law15_SectionPoints.r : List Rr := [.tmp 6]
abbrev law15_SectionPoints.n : Nat := 36
def law15_SectionCuts.c (law15_Small law15_awake section_Cut ref15_Cut law15_segs : FuncId) : C :=
 (.seq
  (.reg [
    ⟨(some 2), none, .box (.t 0)⟩,
    ⟨(some 4), none, .mv (.c (.b false))⟩])
  (.seq
   (.seq
    (.reg [
      ⟨(some 9), none, .ld (some 2) (.t 2)⟩,
      ⟨(some 10), none, .call law15_Small [(.t 9)]⟩,
      ⟨(some 11), none, .un .not (.t 10)⟩])
    (.ite (.t 11)
     (.seq
      (.reg [
        ⟨(some 12), none, .call law15_awake []⟩,
        ⟨(some 4), none, .mv (.t 12)⟩])
      .ret)
     .skip))
   (.seq
    (.reg [
      ⟨(some 14), none, .ld (some 2) (.t 2)⟩,
      ⟨(some 15), none, .mv (.t 1)⟩,
      ⟨(some 16), none, .call section_Cut [(.t 14), (.t 15)]⟩,
      ⟨(some 13), none, .mv (.t 16)⟩,
      ⟨(some 17), none, .ext (.t 13) 0⟩,
      ⟨(some 18), none, .ext (.t 13) 1⟩,
      ⟨(some 5), none, .mv (.t 17)⟩,
      ⟨(some 6), none, .mv (.t 18)⟩])
    (.seq
     (.reg [
       ⟨(some 20), none, .ld (some 2) (.t 2)⟩,
       ⟨(some 21), none, .mv (.t 1)⟩,
       ⟨(some 22), none, .call ref15_Cut [(.t 20), (.t 21)]⟩,
       ⟨(some 19), none, .mv (.t 22)⟩,
       ⟨(some 23), none, .ext (.t 19) 0⟩,
       ⟨(some 24), none, .ext (.t 19) 1⟩,
       ⟨(some 7), none, .mv (.t 23)⟩,
       ⟨(some 8), none, .mv (.t 24)⟩])
     (.seq
      (.reg [
        ⟨(some 25), none, .mv (.t 5)⟩,
        ⟨(some 26), none, .mv (.t 7)⟩,
        ⟨(some 27), none, .call law15_segs [(.t 25), (.t 26)]⟩,
        ⟨(some 28), none, .mv (.t 27)⟩,
        ⟨(some 29), (some (28, true)), .mv (.t 6)⟩,
        ⟨(some 30), (some (28, true)), .mv (.t 8)⟩,
        ⟨(some 31), (some (28, true)), .bin .eql (.t 29) (.t 30)⟩,
        ⟨(some 32), none, .pick (.t 28) (.t 31) (.c (.b false))⟩,
        ⟨(some 33), none, .mv (.t 32)⟩,
        ⟨(some 34), (some (33, true)), .call law15_awake []⟩,
        ⟨(some 35), none, .pick (.t 33) (.t 34) (.c (.b false))⟩,
        ⟨(some 4), none, .mv (.t 35)⟩])
      .ret)))))
def law15_SectionCuts.r : List Rr := [.tmp 4]
abbrev law15_SectionCuts.n : Nat := 36
def law15_SectionInside.c (section_Point law15_awake : FuncId) : C :=
 (.seq
  (.reg [
    ⟨(some 3), none, .box (.t 0)⟩,
    ⟨(some 4), none, .box (.t 1)⟩,
    ⟨(some 6), none, .mv (.c (.b false))⟩])
  (.seq
   (.reg [
     ⟨(some 10), none, .ld (some 3) (.t 3)⟩,
     ⟨(some 11), none, .ld (some 3) (.t 4)⟩,
     ⟨(some 12), none, .mv (.t 2)⟩,
     ⟨(some 13), none, .call section_Point [(.t 10), (.t 11), (.t 12)]⟩,
     ⟨(some 9), none, .mv (.t 13)⟩,
     ⟨(some 14), none, .ext (.t 9) 0⟩,
     ⟨(some 15), none, .ext (.t 9) 1⟩,
     ⟨(some 7), none, .alloc [(.i .i64 0), (.i .i64 0)]⟩,
     ⟨none, none, .st 2 (.t 7) (.t 14)⟩,
     ⟨(some 8), none, .mv (.t 15)⟩])
   (.seq
    (.seq
     (.reg [
       ⟨(some 16), none, .mv (.t 8)⟩,
       ⟨(some 17), none, .un .not (.t 16)⟩])
     (.ite (.t 17)
      (.seq
       (.reg [
         ⟨(some 18), none, .ld (some 2) (.t 7)⟩,
         ⟨(some 19), none, .build [(.i .i64 0), (.i .i64 0)] []⟩,
         ⟨(some 20), none, .eqa [1, 1] false (.t 18) (.t 19)⟩,
         ⟨(some 21), none, .mv (.t 20)⟩,
         ⟨(some 22), (some (21, true)), .call law15_awake []⟩,
         ⟨(some 23), none, .pick (.t 21) (.t 22) (.c (.b false))⟩,
         ⟨(some 6), none, .mv (.t 23)⟩])
       .ret)
      .skip))
    (.seq
     (.reg [
       ⟨(some 24), none, .fa 2 (.t 3)⟩,
       ⟨(some 25), none, .ld none (.t 24)⟩,
       ⟨(some 26), none, .mv (.t 2)⟩,
       ⟨(some 27), none, .bin .leq (.t 25) (.t 26)⟩,
       ⟨(some 28), none, .mv (.t 27)⟩,
       ⟨(some 29), (some (28, true)), .mv (.t 2)⟩,
       ⟨(some 30), (some (28, true)), .fa 2 (.t 4)⟩,
       ⟨(some 31), (some (28, true)), .ld none (.t 30)⟩,
       ⟨(some 32), (some (28, true)), .bin .lss (.t 29) (.t 31)⟩,
       ⟨(some 33), none, .pick (.t 28) (.t 32) (.c (.b false))⟩,
       ⟨(some 34), none, .mv (.t 33)⟩,
       ⟨(some 35), (some (34, true)), .fa 0 (.t 7)⟩,
       ⟨(some 36), (some (34, true)), .ld none (.t 35)⟩,
       ⟨(some 37), (some (34, true)), .fa 0 (.t 3)⟩,
       ⟨(some 38), (some (34, true)), .ld none (.t 37)⟩,
       ⟨(some 39), (some (34, true)), .fa 0 (.t 4)⟩,
       ⟨(some 40), (some (34, true)), .ld none (.t 39)⟩,
       ⟨(some 41), (some (34, true)), .mn [(.t 38), (.t 40)]⟩,
       ⟨(some 42), (some (34, true)), .bin .geq (.t 36) (.t 41)⟩,
       ⟨(some 43), none, .pick (.t 34) (.t 42) (.c (.b false))⟩,
       ⟨(some 44), none, .mv (.t 43)⟩,
       ⟨(some 45), (some (44, true)), .fa 0 (.t 7)⟩,
       ⟨(some 46), (some (44, true)), .ld none (.t 45)⟩,
       ⟨(some 47), (some (44, true)), .fa 0 (.t 3)⟩,
       ⟨(some 48), (some (44, true)), .ld none (.t 47)⟩,
       ⟨(some 49), (some (44, true)), .fa 0 (.t 4)⟩,
       ⟨(some 50), (some (44, true)), .ld none (.t 49)⟩,
       ⟨(some 51), (some (44, true)), .mx [(.t 48), (.t 50)]⟩,
       ⟨(some 52), (some (44, true)), .bin .leq (.t 46) (.t 51)⟩,
       ⟨(some 53), none, .pick (.t 44) (.t 52) (.c (.b false))⟩,
       ⟨(some 54), none, .mv (.t 53)⟩,
       ⟨(some 55), (some (54, true)), .fa 1 (.t 7)⟩,
       ⟨(some 56), (some (54, true)), .ld none (.t 55)⟩,
       ⟨(some 57), (some (54, true)), .fa 1 (.t 3)⟩,
       ⟨(some 58), (some (54, true)), .ld none (.t 57)⟩,
       ⟨(some 59), (some (54, true)), .fa 1 (.t 4)⟩,
       ⟨(some 60), (some (54, true)), .ld none (.t 59)⟩,
       ⟨(some 61), (some (54, true)), .mn [(.t 58), (.t 60)]⟩,
       ⟨(some 62), (some (54, true)), .bin .geq (.t 56) (.t 61)⟩,
       ⟨(some 63), none, .pick (.t 54) (.t 62) (.c (.b false))⟩,
       ⟨(some 64), none, .mv (.t 63)⟩,
       ⟨(some 65), (some (64, true)), .fa 1 (.t 7)⟩,
       ⟨(some 66), (some (64, true)), .ld none (.t 65)⟩,
       ⟨(some 67), (some (64, true)), .fa 1 (.t 3)⟩,
       ⟨(some 68), (some (64, true)), .ld none (.t 67)⟩,
       ⟨(some 69), (some (64, true)), .fa 1 (.t 4)⟩,
       ⟨(some 70), (some (64, true)), .ld none (.t 69)⟩,
       ⟨(some 71), (some (64, true)), .mx [(.t 68), (.t 70)]⟩,
       ⟨(some 72), (some (64, true)), .bin .leq (.t 66) (.t 71)⟩,
       ⟨(some 73), none, .pick (.t 64) (.t 72) (.c (.b false))⟩,
       ⟨(some 74), none, .mv (.t 73)⟩,
       ⟨(some 75), (some (74, true)), .call law15_awake []⟩,
       ⟨(some 76), none, .pick (.t 74) (.t 75) (.c (.b false))⟩,
       ⟨(some 6), none, .mv (.t 76)⟩])
     .ret))))
def law15_SectionInside.r : List Rr := [.tmp 6]
abbrev law15_SectionInside.n : Nat := 77
def law15_SectionCounts.c (law15_Small mesh_Check law15_awake section_Cut : FuncId) : C :=
 (.seq
  (.reg [
    ⟨(some 2), none, .box (.t 0)⟩,
    ⟨(some 4), none, .mv (.c (.b false))⟩])
  (.seq
   (.seq
    (.reg [
      ⟨(some 12), none, .ld (some 2) (.t 2)⟩,
      ⟨(some 13), none, .call law15_Small [(.t 12)]⟩,
      ⟨(some 14), none, .un .not (.t 13)⟩,
      ⟨(some 15), none, .mv (.t 14)⟩,
      ⟨(some 16), (some (15, false)), .ld (some 2) (.t 2)⟩,
      ⟨(some 17), (some (15, false)), .call mesh_Check [(.t 16)]⟩,
      ⟨(some 18), (some (15, false)), .bin .neq (.t 17) (.c (.i .i64 0))⟩,
      ⟨(some 19), none, .pick (.t 15) (.c (.b true)) (.t 18)⟩,
      ⟨(some 20), none, .mv (.t 19)⟩,
      ⟨(some 21), (some (20, false)), .mv (.t 1)⟩,
      ⟨(some 22), (some (20, false)), .bin .lss (.t 21) (.c (.i .i64 (-65536)))⟩,
      ⟨(some 23), none, .pick (.t 20) (.c (.b true)) (.t 22)⟩,
      ⟨(some 24), none, .mv (.t 23)⟩,
      ⟨(some 25), (some (24, false)), .mv (.t 1)⟩,
      ⟨(some 26), (some (24, false)), .bin .gtr (.t 25) (.c (.i .i64 65536))⟩,
      ⟨(some 27), none, .pick (.t 24) (.c (.b true)) (.t 26)⟩])
    (.ite (.t 27)
     (.seq
      (.reg [
        ⟨(some 28), none, .call law15_awake []⟩,
        ⟨(some 4), none, .mv (.t 28)⟩])
      .ret)
     .skip))
   (.seq
    (.reg [
      ⟨(some 5), none, .mv (.c (.i .i64 0))⟩])
    (.seq
     (.seq
      (.reg [
        ⟨(some 6), none, .mv (.c (.i .i64 0))⟩])
      (.blk 0
       (.loop
        (.seq
         (.seq
          (.reg [
            ⟨(some 29), none, .mv (.t 6)⟩,
            ⟨(some 30), none, .fa 1 (.t 2)⟩,
            ⟨(some 31), none, .ld none (.t 30)⟩,
            ⟨(some 32), none, .len 0 (.t 31)⟩,
            ⟨(some 33), none, .bin .lss (.t 29) (.t 32)⟩])
          (.ite (.t 33)
           .skip
           (.exit 0)))
         (.seq
          (.blk 1
           (.seq
            (.drw [
              ⟨(some 36), none, .fa 0 (.t 2)⟩,
              ⟨(some 37), none, .ld none (.t 36)⟩,
              ⟨(some 38), none, .fa 1 (.t 2)⟩,
              ⟨(some 39), none, .ld none (.t 38)⟩,
              ⟨(some 40), none, .mv (.t 6)⟩,
              ⟨(some 41), none, .ia 3 (.t 39) (.t 40)⟩,
              ⟨(some 42), none, .fa 0 (.t 41)⟩,
              ⟨(some 43), none, .ld none (.t 42)⟩,
              ⟨(some 44), none, .ia 3 (.t 37) (.t 43)⟩,
              ⟨(some 45), none, .fa 2 (.t 44)⟩,
              ⟨(some 46), none, .ld none (.t 45)⟩,
              ⟨(some 47), none, .fa 0 (.t 2)⟩,
              ⟨(some 48), none, .ld none (.t 47)⟩,
              ⟨(some 49), none, .fa 1 (.t 2)⟩,
              ⟨(some 50), none, .ld none (.t 49)⟩,
              ⟨(some 51), none, .mv (.t 6)⟩,
              ⟨(some 52), none, .ia 3 (.t 50) (.t 51)⟩,
              ⟨(some 53), none, .fa 1 (.t 52)⟩,
              ⟨(some 54), none, .ld none (.t 53)⟩,
              ⟨(some 55), none, .ia 3 (.t 48) (.t 54)⟩,
              ⟨(some 56), none, .fa 2 (.t 55)⟩,
              ⟨(some 57), none, .ld none (.t 56)⟩,
              ⟨(some 58), none, .fa 0 (.t 2)⟩,
              ⟨(some 59), none, .ld none (.t 58)⟩,
              ⟨(some 60), none, .fa 1 (.t 2)⟩,
              ⟨(some 61), none, .ld none (.t 60)⟩,
              ⟨(some 62), none, .mv (.t 6)⟩,
              ⟨(some 63), none, .ia 3 (.t 61) (.t 62)⟩,
              ⟨(some 64), none, .fa 2 (.t 63)⟩,
              ⟨(some 65), none, .ld none (.t 64)⟩,
              ⟨(some 66), none, .ia 3 (.t 59) (.t 65)⟩,
              ⟨(some 67), none, .fa 2 (.t 66)⟩,
              ⟨(some 68), none, .ld none (.t 67)⟩,
              ⟨(some 7), none, .mv (.t 46)⟩,
              ⟨(some 8), none, .mv (.t 57)⟩,
              ⟨(some 9), none, .mv (.t 68)⟩] [])
            (.seq
             (.reg [
               ⟨(some 69), none, .mv (.t 7)⟩,
               ⟨(some 70), none, .mv (.t 8)⟩,
               ⟨(some 71), none, .mv (.t 9)⟩,
               ⟨(some 72), none, .mn [(.t 69), (.t 70), (.t 71)]⟩,
               ⟨(some 73), none, .mv (.t 1)⟩,
               ⟨(some 74), none, .bin .leq (.t 72) (.t 73)⟩,
               ⟨(some 75), none, .mv (.t 74)⟩,
               ⟨(some 76), (some (75, true)), .mv (.t 1)⟩,
               ⟨(some 77), (some (75, true)), .mv (.t 7)⟩,
               ⟨(some 78), (some (75, true)), .mv (.t 8)⟩,
               ⟨(some 79), (some (75, true)), .mv (.t 9)⟩,
               ⟨(some 80), (some (75, true)), .mx [(.t 77), (.t 78), (.t 79)]⟩,
               ⟨(some 81), (some (75, true)), .bin .lss (.t 76) (.t 80)⟩,
               ⟨(some 82), none, .pick (.t 75) (.t 81) (.c (.b false))⟩])
             (.ite (.t 82)
              (.reg [
                ⟨(some 83), none, .mv (.t 5)⟩,
                ⟨(some 84), none, .bin .add (.t 83) (.c (.i .i64 1))⟩,
                ⟨(some 5), none, .mv (.t 84)⟩])
              .skip))))
          (.reg [
            ⟨(some 34), none, .mv (.t 6)⟩,
            ⟨(some 35), none, .bin .add (.t 34) (.c (.i .i64 1))⟩,
            ⟨(some 6), none, .mv (.t 35)⟩]))))))
     (.seq
      (.reg [
        ⟨(some 86), none, .ld (some 2) (.t 2)⟩,
        ⟨(some 87), none, .mv (.t 1)⟩,
        ⟨(some 88), none, .call section_Cut [(.t 86), (.t 87)]⟩,
        ⟨(some 85), none, .mv (.t 88)⟩,
        ⟨(some 89), none, .ext (.t 85) 0⟩,
        ⟨(some 90), none, .ext (.t 85) 1⟩,
        ⟨(some 10), none, .mv (.t 89)⟩,
        ⟨(some 11), none, .mv (.t 90)⟩])
      (.seq
       (.reg [
         ⟨(some 91), none, .mv (.t 11)⟩,
         ⟨(some 92), none, .bin .eql (.t 91) (.c (.i .i64 0))⟩,
         ⟨(some 93), none, .mv (.t 92)⟩,
         ⟨(some 94), (some (93, true)), .mv (.t 10)⟩,
         ⟨(some 95), (some (93, true)), .len 0 (.t 94)⟩,
         ⟨(some 96), (some (93, true)), .mv (.t 5)⟩,
         ⟨(some 97), (some (93, true)), .bin .eql (.t 95) (.t 96)⟩,
         ⟨(some 98), none, .pick (.t 93) (.t 97) (.c (.b false))⟩,
         ⟨(some 99), none, .mv (.t 98)⟩,
         ⟨(some 100), (some (99, true)), .call law15_awake []⟩,
         ⟨(some 101), none, .pick (.t 99) (.t 100) (.c (.b false))⟩,
         ⟨(some 4), none, .mv (.t 101)⟩])
       .ret))))))
def law15_SectionCounts.r : List Rr := [.tmp 4]
abbrev law15_SectionCounts.n : Nat := 102
def law15_SectionReversed.c (law15_Small mesh_Check law15_awake section_Cut mesh_Reverse : FuncId) : C :=
 (.seq
  (.reg [
    ⟨(some 2), none, .box (.t 0)⟩,
    ⟨(some 4), none, .mv (.c (.b false))⟩])
  (.seq
   (.seq
    (.reg [
      ⟨(some 10), none, .ld (some 2) (.t 2)⟩,
      ⟨(some 11), none, .call law15_Small [(.t 10)]⟩,
      ⟨(some 12), none, .un .not (.t 11)⟩,
      ⟨(some 13), none, .mv (.t 12)⟩,
      ⟨(some 14), (some (13, false)), .ld (some 2) (.t 2)⟩,
      ⟨(some 15), (some (13, false)), .call mesh_Check [(.t 14)]⟩,
      ⟨(some 16), (some (13, false)), .bin .neq (.t 15) (.c (.i .i64 0))⟩,
      ⟨(some 17), none, .pick (.t 13) (.c (.b true)) (.t 16)⟩])
    (.ite (.t 17)
     (.seq
      (.reg [
        ⟨(some 18), none, .call law15_awake []⟩,
        ⟨(some 4), none, .mv (.t 18)⟩])
      .ret)
     .skip))
   (.seq
    (.reg [
      ⟨(some 20), none, .ld (some 2) (.t 2)⟩,
      ⟨(some 21), none, .mv (.t 1)⟩,
      ⟨(some 22), none, .call section_Cut [(.t 20), (.t 21)]⟩,
      ⟨(some 19), none, .mv (.t 22)⟩,
      ⟨(some 23), none, .ext (.t 19) 0⟩,
      ⟨(some 24), none, .ext (.t 19) 1⟩,
      ⟨(some 5), none, .mv (.t 23)⟩,
      ⟨(some 6), none, .mv (.t 24)⟩])
    (.seq
     (.reg [
       ⟨(some 26), none, .ld (some 2) (.t 2)⟩,
       ⟨(some 27), none, .call mesh_Reverse [(.t 26)]⟩,
       ⟨(some 28), none, .mv (.t 1)⟩,
       ⟨(some 29), none, .call section_Cut [(.t 27), (.t 28)]⟩,
       ⟨(some 25), none, .mv (.t 29)⟩,
       ⟨(some 30), none, .ext (.t 25) 0⟩,
       ⟨(some 31), none, .ext (.t 25) 1⟩,
       ⟨(some 7), none, .mv (.t 30)⟩,
       ⟨(some 8), none, .mv (.t 31)⟩])
     (.seq
      (.seq
       (.reg [
         ⟨(some 32), none, .mv (.t 6)⟩,
         ⟨(some 33), none, .mv (.t 8)⟩,
         ⟨(some 34), none, .bin .neq (.t 32) (.t 33)⟩,
         ⟨(some 35), none, .mv (.t 34)⟩,
         ⟨(some 36), (some (35, false)), .mv (.t 5)⟩,
         ⟨(some 37), (some (35, false)), .len 0 (.t 36)⟩,
         ⟨(some 38), (some (35, false)), .mv (.t 7)⟩,
         ⟨(some 39), (some (35, false)), .len 0 (.t 38)⟩,
         ⟨(some 40), (some (35, false)), .bin .neq (.t 37) (.t 39)⟩,
         ⟨(some 41), none, .pick (.t 35) (.c (.b true)) (.t 40)⟩])
       (.ite (.t 41)
        (.seq
         (.reg [
           ⟨(some 4), none, .mv (.c (.b false))⟩])
         .ret)
        .skip))
      (.seq
       (.seq
        (.reg [
          ⟨(some 9), none, .mv (.c (.i .i64 0))⟩])
        (.blk 0
         (.loop
          (.seq
           (.seq
            (.reg [
              ⟨(some 42), none, .mv (.t 9)⟩,
              ⟨(some 43), none, .mv (.t 5)⟩,
              ⟨(some 44), none, .len 0 (.t 43)⟩,
              ⟨(some 45), none, .bin .lss (.t 42) (.t 44)⟩])
            (.ite (.t 45)
             .skip
             (.exit 0)))
           (.seq
            (.blk 1
             (.seq
              (.drw [
                ⟨(some 48), none, .mv (.t 5)⟩,
                ⟨(some 49), none, .mv (.t 9)⟩,
                ⟨(some 50), none, .ia 4 (.t 48) (.t 49)⟩,
                ⟨(some 51), none, .fa 0 (.t 50)⟩,
                ⟨(some 52), none, .ld (some 2) (.t 51)⟩,
                ⟨(some 53), none, .mv (.t 7)⟩,
                ⟨(some 54), none, .mv (.t 9)⟩,
                ⟨(some 55), none, .ia 4 (.t 53) (.t 54)⟩,
                ⟨(some 56), none, .fa 2 (.t 55)⟩,
                ⟨(some 57), none, .ld (some 2) (.t 56)⟩,
                ⟨(some 58), none, .eqa [1, 1] true (.t 52) (.t 57)⟩,
                ⟨(some 59), none, .mv (.t 58)⟩,
                ⟨(some 60), (some (59, false)), .mv (.t 5)⟩,
                ⟨(some 61), (some (59, false)), .mv (.t 9)⟩,
                ⟨(some 62), (some (59, false)), .ia 4 (.t 60) (.t 61)⟩,
                ⟨(some 63), (some (59, false)), .fa 2 (.t 62)⟩,
                ⟨(some 64), (some (59, false)), .ld (some 2) (.t 63)⟩,
                ⟨(some 65), (some (59, false)), .mv (.t 7)⟩,
                ⟨(some 66), (some (59, false)), .mv (.t 9)⟩,
                ⟨(some 67), (some (59, false)), .ia 4 (.t 65) (.t 66)⟩,
                ⟨(some 68), (some (59, false)), .fa 0 (.t 67)⟩,
                ⟨(some 69), (some (59, false)), .ld (some 2) (.t 68)⟩,
                ⟨(some 70), (some (59, false)), .eqa [1, 1] true (.t 64) (.t 69)⟩,
                ⟨(some 71), none, .pick (.t 59) (.c (.b true)) (.t 70)⟩] [])
              (.ite (.t 71)
               (.seq
                (.reg [
                  ⟨(some 4), none, .mv (.c (.b false))⟩])
                .ret)
               .skip)))
            (.reg [
              ⟨(some 46), none, .mv (.t 9)⟩,
              ⟨(some 47), none, .bin .add (.t 46) (.c (.i .i64 1))⟩,
              ⟨(some 9), none, .mv (.t 47)⟩]))))))
       (.seq
        (.reg [
          ⟨(some 72), none, .call law15_awake []⟩,
          ⟨(some 4), none, .mv (.t 72)⟩])
        .ret)))))))
def law15_SectionReversed.r : List Rr := [.tmp 4]
abbrev law15_SectionReversed.n : Nat := 73

end Go.Abs

