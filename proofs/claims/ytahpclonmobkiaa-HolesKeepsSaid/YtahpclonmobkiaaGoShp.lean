/- The code of functions of the program, the functions that they call left open. -/
import Derived.Test.YtahpclonmobkiaaGoRevC
set_option linter.unusedVariables false
set_option linter.unusedSimpArgs false
namespace Go.Abs

def ref07_Same.c : C :=
 (.seq
  (.reg [
    ⟨(some 2), none, .box (.t 0)⟩,
    ⟨(some 3), none, .box (.t 1)⟩,
    ⟨(some 4), none, .mv (.c (.b false))⟩])
  (.seq
   (.seq
    (.reg [
      ⟨(some 7), none, .fa 0 (.t 2)⟩,
      ⟨(some 8), none, .ld none (.t 7)⟩,
      ⟨(some 9), none, .len 0 (.t 8)⟩,
      ⟨(some 10), none, .fa 0 (.t 3)⟩,
      ⟨(some 11), none, .ld none (.t 10)⟩,
      ⟨(some 12), none, .len 0 (.t 11)⟩,
      ⟨(some 13), none, .bin .neq (.t 9) (.t 12)⟩,
      ⟨(some 14), none, .mv (.t 13)⟩,
      ⟨(some 15), (some (14, false)), .fa 1 (.t 2)⟩,
      ⟨(some 16), (some (14, false)), .ld none (.t 15)⟩,
      ⟨(some 17), (some (14, false)), .len 0 (.t 16)⟩,
      ⟨(some 18), (some (14, false)), .fa 1 (.t 3)⟩,
      ⟨(some 19), (some (14, false)), .ld none (.t 18)⟩,
      ⟨(some 20), (some (14, false)), .len 0 (.t 19)⟩,
      ⟨(some 21), (some (14, false)), .bin .neq (.t 17) (.t 20)⟩,
      ⟨(some 22), none, .pick (.t 14) (.c (.b true)) (.t 21)⟩])
    (.ite (.t 22)
     (.seq
      (.reg [
        ⟨(some 4), none, .mv (.c (.b false))⟩])
      .ret)
     .skip))
   (.seq
    (.seq
     (.reg [
       ⟨(some 23), none, .fa 0 (.t 2)⟩,
       ⟨(some 24), none, .ld none (.t 23)⟩,
       ⟨(some 25), none, .len 0 (.t 24)⟩,
       ⟨(some 26), none, .mv (.c (.i .i64 0))⟩])
     (.blk 0
      (.loop
       (.seq
        (.reg [
          ⟨(some 27), none, .bin .lss (.t 26) (.t 25)⟩])
        (.seq
         (.ite (.t 27)
          .skip
          (.exit 0))
         (.seq
          (.blk 1
           (.seq
            (.reg [
              ⟨(some 28), none, .mv (.t 26)⟩,
              ⟨(some 5), none, .mv (.t 28)⟩])
            (.seq
             (.drw [
               ⟨(some 29), none, .fa 0 (.t 2)⟩,
               ⟨(some 30), none, .ld none (.t 29)⟩,
               ⟨(some 31), none, .mv (.t 5)⟩,
               ⟨(some 32), none, .ia 3 (.t 30) (.t 31)⟩,
               ⟨(some 33), none, .ld (some 3) (.t 32)⟩,
               ⟨(some 34), none, .fa 0 (.t 3)⟩,
               ⟨(some 35), none, .ld none (.t 34)⟩,
               ⟨(some 36), none, .mv (.t 5)⟩,
               ⟨(some 37), none, .ia 3 (.t 35) (.t 36)⟩,
               ⟨(some 38), none, .ld (some 3) (.t 37)⟩,
               ⟨(some 39), none, .eqa [1, 1, 1] true (.t 33) (.t 38)⟩] [])
             (.ite (.t 39)
              (.seq
               (.reg [
                 ⟨(some 4), none, .mv (.c (.b false))⟩])
               .ret)
              .skip))))
          (.reg [
            ⟨(some 40), none, .bin .add (.t 26) (.c (.i .i64 1))⟩,
            ⟨(some 26), none, .mv (.t 40)⟩])))))))
    (.seq
     (.seq
      (.reg [
        ⟨(some 41), none, .fa 1 (.t 2)⟩,
        ⟨(some 42), none, .ld none (.t 41)⟩,
        ⟨(some 43), none, .len 0 (.t 42)⟩,
        ⟨(some 44), none, .mv (.c (.i .i64 0))⟩])
      (.blk 2
       (.loop
        (.seq
         (.reg [
           ⟨(some 45), none, .bin .lss (.t 44) (.t 43)⟩])
         (.seq
          (.ite (.t 45)
           .skip
           (.exit 2))
          (.seq
           (.blk 3
            (.seq
             (.reg [
               ⟨(some 46), none, .mv (.t 44)⟩,
               ⟨(some 6), none, .mv (.t 46)⟩])
             (.seq
              (.drw [
                ⟨(some 47), none, .fa 1 (.t 2)⟩,
                ⟨(some 48), none, .ld none (.t 47)⟩,
                ⟨(some 49), none, .mv (.t 6)⟩,
                ⟨(some 50), none, .ia 3 (.t 48) (.t 49)⟩,
                ⟨(some 51), none, .ld (some 3) (.t 50)⟩,
                ⟨(some 52), none, .fa 1 (.t 3)⟩,
                ⟨(some 53), none, .ld none (.t 52)⟩,
                ⟨(some 54), none, .mv (.t 6)⟩,
                ⟨(some 55), none, .ia 3 (.t 53) (.t 54)⟩,
                ⟨(some 56), none, .ld (some 3) (.t 55)⟩,
                ⟨(some 57), none, .eqa [1, 1, 1] true (.t 51) (.t 56)⟩] [])
              (.ite (.t 57)
               (.seq
                (.reg [
                  ⟨(some 4), none, .mv (.c (.b false))⟩])
                .ret)
               .skip))))
           (.reg [
             ⟨(some 58), none, .bin .add (.t 44) (.c (.i .i64 1))⟩,
             ⟨(some 44), none, .mv (.t 58)⟩])))))))
     (.seq
      (.reg [
        ⟨(some 4), none, .mv (.c (.b true))⟩])
      .ret)))))
def ref07_Same.r : List Rr := [.tmp 4]
abbrev ref07_Same.n : Nat := 59
def shapes_fits.c (vec_Valid : FuncId) : C :=
 (.seq
  (.reg [
    ⟨(some 2), none, .mv (.c (.b false))⟩])
  (.seq
   (.seq
    (.reg [
      ⟨(some 5), none, .mv (.t 0)⟩,
      ⟨(some 6), none, .len 0 (.t 5)⟩,
      ⟨(some 7), none, .mv (.c (.i .i64 0))⟩])
    (.blk 0
     (.loop
      (.seq
       (.reg [
         ⟨(some 8), none, .bin .lss (.t 7) (.t 6)⟩])
       (.seq
        (.ite (.t 8)
         .skip
         (.exit 0))
        (.seq
         (.blk 1
          (.seq
           (.reg [
             ⟨(some 9), none, .ia 3 (.t 5) (.t 7)⟩,
             ⟨(some 10), none, .ld (some 3) (.t 9)⟩,
             ⟨(some 4), none, .alloc [(.i .i64 0), (.i .i64 0), (.i .i64 0)]⟩,
             ⟨none, none, .st 3 (.t 4) (.t 10)⟩])
           (.seq
            (.reg [
              ⟨(some 11), none, .ld (some 3) (.t 4)⟩,
              ⟨(some 12), none, .call vec_Valid [(.t 11)]⟩,
              ⟨(some 13), none, .un .not (.t 12)⟩])
            (.ite (.t 13)
             (.seq
              (.reg [
                ⟨(some 2), none, .mv (.c (.b false))⟩])
              .ret)
             .skip))))
         (.reg [
           ⟨(some 14), none, .bin .add (.t 7) (.c (.i .i64 1))⟩,
           ⟨(some 7), none, .mv (.t 14)⟩])))))))
   (.seq
    (.reg [
      ⟨(some 2), none, .mv (.c (.b true))⟩])
    .ret)))
def shapes_fits.r : List Rr := [.tmp 2]
abbrev shapes_fits.n : Nat := 15
def shapes_near.c : C :=
 (.seq
  (.reg [
    ⟨(some 1), none, .box (.t 0)⟩,
    ⟨(some 2), none, .mv (.c (.b false))⟩])
  (.seq
   (.reg [
     ⟨(some 3), none, .fa 0 (.t 1)⟩,
     ⟨(some 4), none, .ld none (.t 3)⟩,
     ⟨(some 5), none, .fa 1 (.t 1)⟩,
     ⟨(some 6), none, .ld none (.t 5)⟩,
     ⟨(some 7), none, .fa 2 (.t 1)⟩,
     ⟨(some 8), none, .ld none (.t 7)⟩,
     ⟨(some 9), none, .mx [(.t 4), (.t 6), (.t 8)]⟩,
     ⟨(some 10), none, .bin .leq (.t 9) (.c (.i .i64 131072))⟩,
     ⟨(some 11), none, .mv (.t 10)⟩,
     ⟨(some 12), (some (11, true)), .fa 0 (.t 1)⟩,
     ⟨(some 13), (some (11, true)), .ld none (.t 12)⟩,
     ⟨(some 14), (some (11, true)), .fa 1 (.t 1)⟩,
     ⟨(some 15), (some (11, true)), .ld none (.t 14)⟩,
     ⟨(some 16), (some (11, true)), .fa 2 (.t 1)⟩,
     ⟨(some 17), (some (11, true)), .ld none (.t 16)⟩,
     ⟨(some 18), (some (11, true)), .mn [(.t 13), (.t 15), (.t 17)]⟩,
     ⟨(some 19), (some (11, true)), .bin .geq (.t 18) (.c (.i .i64 (-131072)))⟩,
     ⟨(some 20), none, .pick (.t 11) (.t 19) (.c (.b false))⟩,
     ⟨(some 2), none, .mv (.t 20)⟩])
   .ret))
def shapes_near.r : List Rr := [.tmp 2]
abbrev shapes_near.n : Nat := 21
def shapes_plus.c : C :=
 (.seq
  (.reg [
    ⟨(some 2), none, .box (.t 0)⟩,
    ⟨(some 3), none, .box (.t 1)⟩,
    ⟨(some 4), none, .alloc [(.i .i64 0), (.i .i64 0), (.i .i64 0)]⟩])
  (.seq
   (.reg [
     ⟨(some 5), none, .fa 0 (.t 2)⟩,
     ⟨(some 6), none, .ld none (.t 5)⟩,
     ⟨(some 7), none, .fa 0 (.t 3)⟩,
     ⟨(some 8), none, .ld none (.t 7)⟩,
     ⟨(some 9), none, .bin .add (.t 6) (.t 8)⟩,
     ⟨(some 10), none, .fa 1 (.t 2)⟩,
     ⟨(some 11), none, .ld none (.t 10)⟩,
     ⟨(some 12), none, .fa 1 (.t 3)⟩,
     ⟨(some 13), none, .ld none (.t 12)⟩,
     ⟨(some 14), none, .bin .add (.t 11) (.t 13)⟩,
     ⟨(some 15), none, .fa 2 (.t 2)⟩,
     ⟨(some 16), none, .ld none (.t 15)⟩,
     ⟨(some 17), none, .fa 2 (.t 3)⟩,
     ⟨(some 18), none, .ld none (.t 17)⟩,
     ⟨(some 19), none, .bin .add (.t 16) (.t 18)⟩,
     ⟨(some 20), none, .build [(.i .i64 0), (.i .i64 0), (.i .i64 0)] [(0, 1, (.t 9)), (1, 1, (.t 14)), (2, 1, (.t 19))]⟩,
     ⟨none, none, .st 3 (.t 4) (.t 20)⟩])
   .ret))
def shapes_plus.r : List Rr := [.cell 4 (some 3)]
abbrev shapes_plus.n : Nat := 21
def shapes_corners.c (shapes_plus : FuncId) : C :=
 (.seq
  (.reg [
    ⟨(some 2), none, .box (.t 0)⟩,
    ⟨(some 3), none, .box (.t 1)⟩,
    ⟨(some 4), none, .alloc [(.i .i64 0), (.i .i64 0), (.i .i64 0), (.i .i64 0), (.i .i64 0), (.i .i64 0), (.i .i64 0), (.i .i64 0), (.i .i64 0), (.i .i64 0), (.i .i64 0), (.i .i64 0), (.i .i64 0), (.i .i64 0), (.i .i64 0), (.i .i64 0), (.i .i64 0), (.i .i64 0), (.i .i64 0), (.i .i64 0), (.i .i64 0), (.i .i64 0), (.i .i64 0), (.i .i64 0)]⟩])
  (.seq
   (.reg [
     ⟨(some 5), none, .alloc [(.i .i64 0), (.i .i64 0), (.i .i64 0), (.i .i64 0), (.i .i64 0), (.i .i64 0), (.i .i64 0), (.i .i64 0), (.i .i64 0), (.i .i64 0), (.i .i64 0), (.i .i64 0), (.i .i64 0), (.i .i64 0), (.i .i64 0), (.i .i64 0), (.i .i64 0), (.i .i64 0), (.i .i64 0), (.i .i64 0), (.i .i64 0), (.i .i64 0), (.i .i64 0), (.i .i64 0)]⟩])
   (.seq
    (.seq
     (.reg [
       ⟨(some 7), none, .mv (.c (.i .i64 0))⟩])
     (.blk 0
      (.loop
       (.seq
        (.reg [
          ⟨(some 8), none, .bin .lss (.t 7) (.c (.i .i64 8))⟩])
        (.seq
         (.ite (.t 8)
          .skip
          (.exit 0))
         (.seq
          (.blk 1
           (.seq
            (.reg [
              ⟨(some 9), none, .mv (.t 7)⟩,
              ⟨(some 6), none, .mv (.t 9)⟩])
            (.reg [
              ⟨(some 10), none, .mv (.t 6)⟩,
              ⟨(some 11), none, .ld (some 3) (.t 2)⟩,
              ⟨(some 12), none, .mv (.t 6)⟩,
              ⟨(some 13), none, .bin .and (.t 12) (.c (.i .i64 1))⟩,
              ⟨(some 14), none, .fa 0 (.t 3)⟩,
              ⟨(some 15), none, .ld none (.t 14)⟩,
              ⟨(some 16), none, .bin .mul (.t 13) (.t 15)⟩,
              ⟨(some 17), none, .mv (.t 6)⟩,
              ⟨(some 18), none, .bin .shr (.t 17) (.c (.i .u64 1))⟩,
              ⟨(some 19), none, .bin .and (.t 18) (.c (.i .i64 1))⟩,
              ⟨(some 20), none, .fa 1 (.t 3)⟩,
              ⟨(some 21), none, .ld none (.t 20)⟩,
              ⟨(some 22), none, .bin .mul (.t 19) (.t 21)⟩,
              ⟨(some 23), none, .mv (.t 6)⟩,
              ⟨(some 24), none, .bin .shr (.t 23) (.c (.i .u64 2))⟩,
              ⟨(some 25), none, .bin .and (.t 24) (.c (.i .i64 1))⟩,
              ⟨(some 26), none, .fa 2 (.t 3)⟩,
              ⟨(some 27), none, .ld none (.t 26)⟩,
              ⟨(some 28), none, .bin .mul (.t 25) (.t 27)⟩,
              ⟨(some 29), none, .build [(.i .i64 0), (.i .i64 0), (.i .i64 0)] [(0, 1, (.t 16)), (1, 1, (.t 22)), (2, 1, (.t 28))]⟩,
              ⟨(some 30), none, .call shapes_plus [(.t 11), (.t 29)]⟩,
              ⟨(some 31), none, .iaa 8 3 (.t 5) (.t 10)⟩,
              ⟨none, none, .st 3 (.t 31) (.t 30)⟩])))
          (.reg [
            ⟨(some 32), none, .bin .add (.t 7) (.c (.i .i64 1))⟩,
            ⟨(some 7), none, .mv (.t 32)⟩])))))))
    (.seq
     (.reg [
       ⟨(some 33), none, .ld (some 24) (.t 5)⟩,
       ⟨none, none, .st 24 (.t 4) (.t 33)⟩])
     .ret))))
def shapes_corners.r : List Rr := [.cell 4 (some 24)]
abbrev shapes_corners.n : Nat := 34
def slices_Clone_api_Vec_api_Vec.c : C :=
 (.seq
  (.reg [
    ⟨(some 2), none, .mv (.c .nil)⟩])
  (.seq
   (.seq
    (.reg [
      ⟨(some 3), none, .mv (.t 0)⟩,
      ⟨(some 4), none, .isn false (.t 3)⟩])
    (.ite (.t 4)
     (.seq
      (.reg [
        ⟨(some 2), none, .mv (.c .nil)⟩])
      .ret)
     .skip))
   (.seq
    (.reg [
      ⟨(some 5), none, .bso 3 0 [(.i .i64 0), (.i .i64 0), (.i .i64 0)] []⟩,
      ⟨(some 6), none, .mv (.t 0)⟩,
      ⟨(some 7), none, .app 3 24 (.t 5) (.t 6)⟩,
      ⟨(some 2), none, .mv (.t 7)⟩])
    .ret)))
def slices_Clone_api_Vec_api_Vec.r : List Rr := [.tmp 2]
abbrev slices_Clone_api_Vec_api_Vec.n : Nat := 8
def ref01_Add.c : C :=
 (.seq
  (.reg [
    ⟨(some 4), none, .mv (.c (.i .i64 0))⟩,
    ⟨(some 5), none, .mv (.c (.i .i64 0))⟩])
  (.seq
   (.reg [
     ⟨(some 7), none, .mv (.t 0)⟩,
     ⟨(some 8), none, .mv (.t 1)⟩,
     ⟨(some 9), none, .bin .add (.t 7) (.t 8)⟩,
     ⟨(some 6), none, .mv (.t 9)⟩])
   (.seq
    (.seq
     (.reg [
       ⟨(some 10), none, .mv (.t 1)⟩,
       ⟨(some 11), none, .bin .gtr (.t 10) (.c (.i .i64 0))⟩,
       ⟨(some 12), none, .mv (.t 11)⟩,
       ⟨(some 13), (some (12, true)), .mv (.t 6)⟩,
       ⟨(some 14), (some (12, true)), .mv (.t 0)⟩,
       ⟨(some 15), (some (12, true)), .bin .lss (.t 13) (.t 14)⟩,
       ⟨(some 16), none, .pick (.t 12) (.t 15) (.c (.b false))⟩,
       ⟨(some 17), none, .mv (.t 16)⟩,
       ⟨(some 18), (some (17, false)), .mv (.t 1)⟩,
       ⟨(some 19), (some (17, false)), .bin .lss (.t 18) (.c (.i .i64 0))⟩,
       ⟨(some 20), (some (17, false)), .mv (.t 19)⟩,
       ⟨(some 21), (some (20, true)), .mv (.t 6)⟩,
       ⟨(some 22), (some (20, true)), .mv (.t 0)⟩,
       ⟨(some 23), (some (20, true)), .bin .gtr (.t 21) (.t 22)⟩,
       ⟨(some 24), (some (17, false)), .pick (.t 20) (.t 23) (.c (.b false))⟩,
       ⟨(some 25), none, .pick (.t 17) (.c (.b true)) (.t 24)⟩])
     (.ite (.t 25)
      (.seq
       (.reg [
         ⟨(some 4), none, .mv (.c (.i .i64 0))⟩,
         ⟨(some 5), none, .mv (.c (.i .i64 3))⟩])
       .ret)
      .skip))
    (.seq
     (.reg [
       ⟨(some 26), none, .mv (.t 6)⟩,
       ⟨(some 4), none, .mv (.t 26)⟩,
       ⟨(some 5), none, .mv (.c (.i .i64 0))⟩])
     .ret))))
def ref01_Add.r : List Rr := [.tmp 4, .tmp 5]
abbrev ref01_Add.n : Nat := 27
def ref13_valid.c (ref04_Valid : FuncId) : C :=
 (.seq
  (.reg [
    ⟨(some 2), none, .mv (.c (.b false))⟩])
  (.seq
   (.seq
    (.reg [
      ⟨(some 5), none, .mv (.t 0)⟩,
      ⟨(some 6), none, .len 0 (.t 5)⟩,
      ⟨(some 7), none, .mv (.c (.i .i64 0))⟩])
    (.blk 0
     (.loop
      (.seq
       (.reg [
         ⟨(some 8), none, .bin .lss (.t 7) (.t 6)⟩])
       (.seq
        (.ite (.t 8)
         .skip
         (.exit 0))
        (.seq
         (.blk 1
          (.seq
           (.reg [
             ⟨(some 9), none, .ia 3 (.t 5) (.t 7)⟩,
             ⟨(some 10), none, .ld (some 3) (.t 9)⟩,
             ⟨(some 4), none, .alloc [(.i .i64 0), (.i .i64 0), (.i .i64 0)]⟩,
             ⟨none, none, .st 3 (.t 4) (.t 10)⟩])
           (.seq
            (.reg [
              ⟨(some 11), none, .ld (some 3) (.t 4)⟩,
              ⟨(some 12), none, .call ref04_Valid [(.t 11)]⟩,
              ⟨(some 13), none, .un .not (.t 12)⟩])
            (.ite (.t 13)
             (.seq
              (.reg [
                ⟨(some 2), none, .mv (.c (.b false))⟩])
              .ret)
             .skip))))
         (.reg [
           ⟨(some 14), none, .bin .add (.t 7) (.c (.i .i64 1))⟩,
           ⟨(some 7), none, .mv (.t 14)⟩])))))))
   (.seq
    (.reg [
      ⟨(some 2), none, .mv (.c (.b true))⟩])
    .ret)))
def ref13_valid.r : List Rr := [.tmp 2]
abbrev ref13_valid.n : Nat := 15
def slices_Clone_api_Tri_api_Tri.c : C :=
 (.seq
  (.reg [
    ⟨(some 2), none, .mv (.c .nil)⟩])
  (.seq
   (.seq
    (.reg [
      ⟨(some 3), none, .mv (.t 0)⟩,
      ⟨(some 4), none, .isn false (.t 3)⟩])
    (.ite (.t 4)
     (.seq
      (.reg [
        ⟨(some 2), none, .mv (.c .nil)⟩])
      .ret)
     .skip))
   (.seq
    (.reg [
      ⟨(some 5), none, .bso 3 0 [(.i .i64 0), (.i .i64 0), (.i .i64 0)] []⟩,
      ⟨(some 6), none, .mv (.t 0)⟩,
      ⟨(some 7), none, .app 3 24 (.t 5) (.t 6)⟩,
      ⟨(some 2), none, .mv (.t 7)⟩])
    .ret)))
def slices_Clone_api_Tri_api_Tri.r : List Rr := [.tmp 2]
abbrev slices_Clone_api_Tri_api_Tri.n : Nat := 8
end Go.Abs

