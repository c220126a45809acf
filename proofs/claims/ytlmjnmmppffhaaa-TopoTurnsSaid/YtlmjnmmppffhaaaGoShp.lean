/- The code of functions of the program, the functions that they call left open. -/
import Derived.Test.YtlmjnmmppffhaaaGoRevC
set_option linter.unusedVariables false
set_option linter.unusedSimpArgs false
namespace Go.Abs

def shapes_fits.c (vec_Valid : FuncId) : C :=
 (.seq
  (.reg [
    ⟨(some 2), none, .mv (.c (.b false))⟩])
  (.seq
   (.seq
    (.reg [
      ⟨(some 5), none, .mv (.t 0)⟩,
      ⟨(some 6), none, .len 0 (.t 5)⟩,
      ⟨(some 7), none, .mv (.c (.i .i64 0))⟩])
    (.blk 0
     (.loop
      (.seq
       (.reg [
         ⟨(some 8), none, .bin .lss (.t 7) (.t 6)⟩])
       (.seq
        (.ite (.t 8)
         .skip
         (.exit 0))
        (.seq
         (.blk 1
          (.seq
           (.reg [
             ⟨(some 9), none, .ia 3 (.t 5) (.t 7)⟩,
             ⟨(some 10), none, .ld (some 3) (.t 9)⟩,
             ⟨(some 4), none, .alloc [(.i .i64 0), (.i .i64 0), (.i .i64 0)]⟩,
             ⟨none, none, .st 3 (.t 4) (.t 10)⟩])
           (.seq
            (.reg [
              ⟨(some 11), none, .ld (some 3) (.t 4)⟩,
              ⟨(some 12), none, .call vec_Valid [(.t 11)]⟩,
              ⟨(some 13), none, .un .not (.t 12)⟩])
            (.ite (.t 13)
             (.seq
              (.reg [
                ⟨(some 2), none, .mv (.c (.b false))⟩])
              .ret)
             .skip))))
         (.reg [
           ⟨(some 14), none, .bin .add (.t 7) (.c (.i .i64 1))⟩,
           ⟨(some 7), none, .mv (.t 14)⟩])))))))
   (.seq
    (.reg [
      ⟨(some 2), none, .mv (.c (.b true))⟩])
    .ret)))
def shapes_fits.r : List Rr := [.tmp 2]
abbrev shapes_fits.n : Nat := 15
def shapes_near.c : C :=
 (.seq
  (.reg [
    ⟨(some 1), none, .box (.t 0)⟩,
    ⟨(some 2), none, .mv (.c (.b false))⟩])
  (.seq
   (.reg [
     ⟨(some 3), none, .fa 0 (.t 1)⟩,
     ⟨(some 4), none, .ld none (.t 3)⟩,
     ⟨(some 5), none, .fa 1 (.t 1)⟩,
     ⟨(some 6), none, .ld none (.t 5)⟩,
     ⟨(some 7), none, .fa 2 (.t 1)⟩,
     ⟨(some 8), none, .ld none (.t 7)⟩,
     ⟨(some 9), none, .mx [(.t 4), (.t 6), (.t 8)]⟩,
     ⟨(some 10), none, .bin .leq (.t 9) (.c (.i .i64 131072))⟩,
     ⟨(some 11), none, .mv (.t 10)⟩,
     ⟨(some 12), (some (11, true)), .fa 0 (.t 1)⟩,
     ⟨(some 13), (some (11, true)), .ld none (.t 12)⟩,
     ⟨(some 14), (some (11, true)), .fa 1 (.t 1)⟩,
     ⟨(some 15), (some (11, true)), .ld none (.t 14)⟩,
     ⟨(some 16), (some (11, true)), .fa 2 (.t 1)⟩,
     ⟨(some 17), (some (11, true)), .ld none (.t 16)⟩,
     ⟨(some 18), (some (11, true)), .mn [(.t 13), (.t 15), (.t 17)]⟩,
     ⟨(some 19), (some (11, true)), .bin .geq (.t 18) (.c (.i .i64 (-131072)))⟩,
     ⟨(some 20), none, .pick (.t 11) (.t 19) (.c (.b false))⟩,
     ⟨(some 2), none, .mv (.t 20)⟩])
   .ret))
def shapes_near.r : List Rr := [.tmp 2]
abbrev shapes_near.n : Nat := 21
def shapes_plus.c : C :=
 (.seq
  (.reg [
    ⟨(some 2), none, .box (.t 0)⟩,
    ⟨(some 3), none, .box (.t 1)⟩,
    ⟨(some 4), none, .alloc [(.i .i64 0), (.i .i64 0), (.i .i64 0)]⟩])
  (.seq
   (.reg [
     ⟨(some 5), none, .fa 0 (.t 2)⟩,
     ⟨(some 6), none, .ld none (.t 5)⟩,
     ⟨(some 7), none, .fa 0 (.t 3)⟩,
     ⟨(some 8), none, .ld none (.t 7)⟩,
     ⟨(some 9), none, .bin .add (.t 6) (.t 8)⟩,
     ⟨(some 10), none, .fa 1 (.t 2)⟩,
     ⟨(some 11), none, .ld none (.t 10)⟩,
     ⟨(some 12), none, .fa 1 (.t 3)⟩,
     ⟨(some 13), none, .ld none (.t 12)⟩,
     ⟨(some 14), none, .bin .add (.t 11) (.t 13)⟩,
     ⟨(some 15), none, .fa 2 (.t 2)⟩,
     ⟨(some 16), none, .ld none (.t 15)⟩,
     ⟨(some 17), none, .fa 2 (.t 3)⟩,
     ⟨(some 18), none, .ld none (.t 17)⟩,
     ⟨(some 19), none, .bin .add (.t 16) (.t 18)⟩,
     ⟨(some 20), none, .build [(.i .i64 0), (.i .i64 0), (.i .i64 0)] [(0, 1, (.t 9)), (1, 1, (.t 14)), (2, 1, (.t 19))]⟩,
     ⟨none, none, .st 3 (.t 4) (.t 20)⟩])
   .ret))
def shapes_plus.r : List Rr := [.cell 4 (some 3)]
abbrev shapes_plus.n : Nat := 21
def shapes_corners.c (shapes_plus : FuncId) : C :=
 (.seq
  (.reg [
    ⟨(some 2), none, .box (.t 0)⟩,
    ⟨(some 3), none, .box (.t 1)⟩,
    ⟨(some 4), none, .alloc [(.i .i64 0), (.i .i64 0), (.i .i64 0), (.i .i64 0), (.i .i64 0), (.i .i64 0), (.i .i64 0), (.i .i64 0), (.i .i64 0), (.i .i64 0), (.i .i64 0), (.i .i64 0), (.i .i64 0), (.i .i64 0), (.i .i64 0), (.i .i64 0), (.i .i64 0), (.i .i64 0), (.i .i64 0), (.i .i64 0), (.i .i64 0), (.i .i64 0), (.i .i64 0), (.i .i64 0)]⟩])
  (.seq
   (.reg [
     ⟨(some 5), none, .alloc [(.i .i64 0), (.i .i64 0), (.i .i64 0), (.i .i64 0), (.i .i64 0), (.i .i64 0), (.i .i64 0), (.i .i64 0), (.i .i64 0), (.i .i64 0), (.i .i64 0), (.i .i64 0), (.i .i64 0), (.i .i64 0), (.i .i64 0), (.i .i64 0), (.i .i64 0), (.i .i64 0), (.i .i64 0), (.i .i64 0), (.i .i64 0), (.i .i64 0), (.i .i64 0), (.i .i64 0)]⟩])
   (.seq
    (.seq
     (.reg [
       ⟨(some 7), none, .mv (.c (.i .i64 0))⟩])
     (.blk 0
      (.loop
       (.seq
        (.reg [
          ⟨(some 8), none, .bin .lss (.t 7) (.c (.i .i64 8))⟩])
        (.seq
         (.ite (.t 8)
          .skip
          (.exit 0))
         (.seq
          (.blk 1
           (.seq
            (.reg [
              ⟨(some 9), none, .mv (.t 7)⟩,
              ⟨(some 6), none, .mv (.t 9)⟩])
            (.reg [
              ⟨(some 10), none, .mv (.t 6)⟩,
              ⟨(some 11), none, .ld (some 3) (.t 2)⟩,
              ⟨(some 12), none, .mv (.t 6)⟩,
              ⟨(some 13), none, .bin .and (.t 12) (.c (.i .i64 1))⟩,
              ⟨(some 14), none, .fa 0 (.t 3)⟩,
              ⟨(some 15), none, .ld none (.t 14)⟩,
              ⟨(some 16), none, .bin .mul (.t 13) (.t 15)⟩,
              ⟨(some 17), none, .mv (.t 6)⟩,
              ⟨(some 18), none, .bin .shr (.t 17) (.c (.i .u64 1))⟩,
              ⟨(some 19), none, .bin .and (.t 18) (.c (.i .i64 1))⟩,
              ⟨(some 20), none, .fa 1 (.t 3)⟩,
              ⟨(some 21), none, .ld none (.t 20)⟩,
              ⟨(some 22), none, .bin .mul (.t 19) (.t 21)⟩,
              ⟨(some 23), none, .mv (.t 6)⟩,
              ⟨(some 24), none, .bin .shr (.t 23) (.c (.i .u64 2))⟩,
              ⟨(some 25), none, .bin .and (.t 24) (.c (.i .i64 1))⟩,
              ⟨(some 26), none, .fa 2 (.t 3)⟩,
              ⟨(some 27), none, .ld none (.t 26)⟩,
              ⟨(some 28), none, .bin .mul (.t 25) (.t 27)⟩,
              ⟨(some 29), none, .build [(.i .i64 0), (.i .i64 0), (.i .i64 0)] [(0, 1, (.t 16)), (1, 1, (.t 22)), (2, 1, (.t 28))]⟩,
              ⟨(some 30), none, .call shapes_plus [(.t 11), (.t 29)]⟩,
              ⟨(some 31), none, .iaa 8 3 (.t 5) (.t 10)⟩,
              ⟨none, none, .st 3 (.t 31) (.t 30)⟩])))
          (.reg [
            ⟨(some 32), none, .bin .add (.t 7) (.c (.i .i64 1))⟩,
            ⟨(some 7), none, .mv (.t 32)⟩])))))))
    (.seq
     (.reg [
       ⟨(some 33), none, .ld (some 24) (.t 5)⟩,
       ⟨none, none, .st 24 (.t 4) (.t 33)⟩])
     .ret))))
def shapes_corners.r : List Rr := [.cell 4 (some 24)]
abbrev shapes_corners.n : Nat := 34
def slices_Clone_api_Vec_api_Vec.c : C :=
 (.seq
  (.reg [
    ⟨(some 2), none, .mv (.c .nil)⟩])
  (.seq
   (.seq
    (.reg [
      ⟨(some 3), none, .mv (.t 0)⟩,
      ⟨(some 4), none, .isn false (.t 3)⟩])
    (.ite (.t 4)
     (.seq
      (.reg [
        ⟨(some 2), none, .mv (.c .nil)⟩])
      .ret)
     .skip))
   (.seq
    (.reg [
      ⟨(some 5), none, .bso 3 0 [(.i .i64 0), (.i .i64 0), (.i .i64 0)] []⟩,
      ⟨(some 6), none, .mv (.t 0)⟩,
      ⟨(some 7), none, .app 3 24 (.t 5) (.t 6)⟩,
      ⟨(some 2), none, .mv (.t 7)⟩])
    .ret)))
def slices_Clone_api_Vec_api_Vec.r : List Rr := [.tmp 2]
abbrev slices_Clone_api_Vec_api_Vec.n : Nat := 8
def ref13_valid.c (ref04_Valid : FuncId) : C :=
 (.seq
  (.reg [
    ⟨(some 2), none, .mv (.c (.b false))⟩])
  (.seq
   (.seq
    (.reg [
      ⟨(some 5), none, .mv (.t 0)⟩,
      ⟨(some 6), none, .len 0 (.t 5)⟩,
      ⟨(some 7), none, .mv (.c (.i .i64 0))⟩])
    (.blk 0
     (.loop
      (.seq
       (.reg [
         ⟨(some 8), none, .bin .lss (.t 7) (.t 6)⟩])
       (.seq
        (.ite (.t 8)
         .skip
         (.exit 0))
        (.seq
         (.blk 1
          (.seq
           (.reg [
             ⟨(some 9), none, .ia 3 (.t 5) (.t 7)⟩,
             ⟨(some 10), none, .ld (some 3) (.t 9)⟩,
             ⟨(some 4), none, .alloc [(.i .i64 0), (.i .i64 0), (.i .i64 0)]⟩,
             ⟨none, none, .st 3 (.t 4) (.t 10)⟩])
           (.seq
            (.reg [
              ⟨(some 11), none, .ld (some 3) (.t 4)⟩,
              ⟨(some 12), none, .call ref04_Valid [(.t 11)]⟩,
              ⟨(some 13), none, .un .not (.t 12)⟩])
            (.ite (.t 13)
             (.seq
              (.reg [
                ⟨(some 2), none, .mv (.c (.b false))⟩])
              .ret)
             .skip))))
         (.reg [
           ⟨(some 14), none, .bin .add (.t 7) (.c (.i .i64 1))⟩,
           ⟨(some 7), none, .mv (.t 14)⟩])))))))
   (.seq
    (.reg [
      ⟨(some 2), none, .mv (.c (.b true))⟩])
    .ret)))
def ref13_valid.r : List Rr := [.tmp 2]
abbrev ref13_valid.n : Nat := 15
def slices_Clone_api_Tri_api_Tri.c : C :=
 (.seq
  (.reg [
    ⟨(some 2), none, .mv (.c .nil)⟩])
  (.seq
   (.seq
    (.reg [
      ⟨(some 3), none, .mv (.t 0)⟩,
      ⟨(some 4), none, .isn false (.t 3)⟩])
    (.ite (.t 4)
     (.seq
      (.reg [
        ⟨(some 2), none, .mv (.c .nil)⟩])
      .ret)
     .skip))
   (.seq
    (.reg [
      ⟨(some 5), none, .bso 3 0 [(.i .i64 0), (.i .i64 0), (.i .i64 0)] []⟩,
      ⟨(some 6), none, .mv (.t 0)⟩,
      ⟨(some 7), none, .app 3 24 (.t 5) (.t 6)⟩,
      ⟨(some 2), none, .mv (.t 7)⟩])
    .ret)))
def slices_Clone_api_Tri_api_Tri.r : List Rr := [.tmp 2]
abbrev slices_Clone_api_Tri_api_Tri.n : Nat := 8
end Go.Abs

