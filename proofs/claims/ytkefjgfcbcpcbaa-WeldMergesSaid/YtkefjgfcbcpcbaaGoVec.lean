/- The code of functions of the program, the functions that they call left open. -/
import Derived.Test.YtkefjgfcbcpcbaaGoHeap
set_option linter.unusedVariables false
set_option linter.unusedSimpArgs false
namespace Go.Abs

def vec_within.c : C :=
 (.seq
  (.reg [
    ⟨(some 2), none, .box (.t 0)⟩,
    ⟨(some 4), none, .mv (.c (.b false))⟩])
  (.seq
   (.reg [
     ⟨(some 5), none, .fa 0 (.t 2)⟩,
     ⟨(some 6), none, .ld none (.t 5)⟩,
     ⟨(some 7), none, .mv (.t 1)⟩,
     ⟨(some 8), none, .un .neg (.t 7)⟩,
     ⟨(some 9), none, .bin .geq (.t 6) (.t 8)⟩,
     ⟨(some 10), none, .mv (.t 9)⟩,
     ⟨(some 11), (some (10, true)), .fa 0 (.t 2)⟩,
     ⟨(some 12), (some (10, true)), .ld none (.t 11)⟩,
     ⟨(some 13), (some (10, true)), .mv (.t 1)⟩,
     ⟨(some 14), (some (10, true)), .bin .leq (.t 12) (.t 13)⟩,
     ⟨(some 15), none, .pick (.t 10) (.t 14) (.c (.b false))⟩,
     ⟨(some 16), none, .mv (.t 15)⟩,
     ⟨(some 17), (some (16, true)), .fa 1 (.t 2)⟩,
     ⟨(some 18), (some (16, true)), .ld none (.t 17)⟩,
     ⟨(some 19), (some (16, true)), .mv (.t 1)⟩,
     ⟨(some 20), (some (16, true)), .un .neg (.t 19)⟩,
     ⟨(some 21), (some (16, true)), .bin .geq (.t 18) (.t 20)⟩,
     ⟨(some 22), none, .pick (.t 16) (.t 21) (.c (.b false))⟩,
     ⟨(some 23), none, .mv (.t 22)⟩,
     ⟨(some 24), (some (23, true)), .fa 1 (.t 2)⟩,
     ⟨(some 25), (some (23, true)), .ld none (.t 24)⟩,
     ⟨(some 26), (some (23, true)), .mv (.t 1)⟩,
     ⟨(some 27), (some (23, true)), .bin .leq (.t 25) (.t 26)⟩,
     ⟨(some 28), none, .pick (.t 23) (.t 27) (.c (.b false))⟩,
     ⟨(some 29), none, .mv (.t 28)⟩,
     ⟨(some 30), (some (29, true)), .fa 2 (.t 2)⟩,
     ⟨(some 31), (some (29, true)), .ld none (.t 30)⟩,
     ⟨(some 32), (some (29, true)), .mv (.t 1)⟩,
     ⟨(some 33), (some (29, true)), .un .neg (.t 32)⟩,
     ⟨(some 34), (some (29, true)), .bin .geq (.t 31) (.t 33)⟩,
     ⟨(some 35), none, .pick (.t 29) (.t 34) (.c (.b false))⟩,
     ⟨(some 36), none, .mv (.t 35)⟩,
     ⟨(some 37), (some (36, true)), .fa 2 (.t 2)⟩,
     ⟨(some 38), (some (36, true)), .ld none (.t 37)⟩,
     ⟨(some 39), (some (36, true)), .mv (.t 1)⟩,
     ⟨(some 40), (some (36, true)), .bin .leq (.t 38) (.t 39)⟩,
     ⟨(some 41), none, .pick (.t 36) (.t 40) (.c (.b false))⟩,
     ⟨(some 4), none, .mv (.t 41)⟩])
   .ret))
def vec_within.r : List Rr := [.tmp 4]
abbrev vec_within.n : Nat := 42
def vec_Valid.c (vec_within : FuncId) : C :=
 (.seq
  (.reg [
    ⟨(some 1), none, .box (.t 0)⟩,
    ⟨(some 2), none, .mv (.c (.b false))⟩])
  (.seq
   (.reg [
     ⟨(some 3), none, .ld (some 3) (.t 1)⟩,
     ⟨(some 4), none, .call vec_within [(.t 3), (.c (.i .i64 65536))]⟩,
     ⟨(some 2), none, .mv (.t 4)⟩])
   .ret))
def vec_Valid.r : List Rr := [.tmp 2]
abbrev vec_Valid.n : Nat := 5
def ref04_within.c : C :=
 (.seq
  (.reg [
    ⟨(some 2), none, .box (.t 0)⟩,
    ⟨(some 4), none, .mv (.c (.b false))⟩])
  (.seq
   (.reg [
     ⟨(some 5), none, .fa 0 (.t 2)⟩,
     ⟨(some 6), none, .ld none (.t 5)⟩,
     ⟨(some 7), none, .mv (.t 1)⟩,
     ⟨(some 8), none, .un .neg (.t 7)⟩,
     ⟨(some 9), none, .bin .geq (.t 6) (.t 8)⟩,
     ⟨(some 10), none, .mv (.t 9)⟩,
     ⟨(some 11), (some (10, true)), .fa 0 (.t 2)⟩,
     ⟨(some 12), (some (10, true)), .ld none (.t 11)⟩,
     ⟨(some 13), (some (10, true)), .mv (.t 1)⟩,
     ⟨(some 14), (some (10, true)), .bin .leq (.t 12) (.t 13)⟩,
     ⟨(some 15), none, .pick (.t 10) (.t 14) (.c (.b false))⟩,
     ⟨(some 16), none, .mv (.t 15)⟩,
     ⟨(some 17), (some (16, true)), .fa 1 (.t 2)⟩,
     ⟨(some 18), (some (16, true)), .ld none (.t 17)⟩,
     ⟨(some 19), (some (16, true)), .mv (.t 1)⟩,
     ⟨(some 20), (some (16, true)), .un .neg (.t 19)⟩,
     ⟨(some 21), (some (16, true)), .bin .geq (.t 18) (.t 20)⟩,
     ⟨(some 22), none, .pick (.t 16) (.t 21) (.c (.b false))⟩,
     ⟨(some 23), none, .mv (.t 22)⟩,
     ⟨(some 24), (some (23, true)), .fa 1 (.t 2)⟩,
     ⟨(some 25), (some (23, true)), .ld none (.t 24)⟩,
     ⟨(some 26), (some (23, true)), .mv (.t 1)⟩,
     ⟨(some 27), (some (23, true)), .bin .leq (.t 25) (.t 26)⟩,
     ⟨(some 28), none, .pick (.t 23) (.t 27) (.c (.b false))⟩,
     ⟨(some 29), none, .mv (.t 28)⟩,
     ⟨(some 30), (some (29, true)), .fa 2 (.t 2)⟩,
     ⟨(some 31), (some (29, true)), .ld none (.t 30)⟩,
     ⟨(some 32), (some (29, true)), .mv (.t 1)⟩,
     ⟨(some 33), (some (29, true)), .un .neg (.t 32)⟩,
     ⟨(some 34), (some (29, true)), .bin .geq (.t 31) (.t 33)⟩,
     ⟨(some 35), none, .pick (.t 29) (.t 34) (.c (.b false))⟩,
     ⟨(some 36), none, .mv (.t 35)⟩,
     ⟨(some 37), (some (36, true)), .fa 2 (.t 2)⟩,
     ⟨(some 38), (some (36, true)), .ld none (.t 37)⟩,
     ⟨(some 39), (some (36, true)), .mv (.t 1)⟩,
     ⟨(some 40), (some (36, true)), .bin .leq (.t 38) (.t 39)⟩,
     ⟨(some 41), none, .pick (.t 36) (.t 40) (.c (.b false))⟩,
     ⟨(some 4), none, .mv (.t 41)⟩])
   .ret))
def ref04_within.r : List Rr := [.tmp 4]
abbrev ref04_within.n : Nat := 42
def ref04_Valid.c (ref04_within : FuncId) : C :=
 (.seq
  (.reg [
    ⟨(some 1), none, .box (.t 0)⟩,
    ⟨(some 2), none, .mv (.c (.b false))⟩])
  (.seq
   (.reg [
     ⟨(some 3), none, .ld (some 3) (.t 1)⟩,
     ⟨(some 4), none, .call ref04_within [(.t 3), (.c (.i .i64 65536))]⟩,
     ⟨(some 2), none, .mv (.t 4)⟩])
   .ret))
def ref04_Valid.r : List Rr := [.tmp 2]
abbrev ref04_Valid.n : Nat := 5
def num_Floor.c : C :=
 (.seq
  (.reg [
    ⟨(some 4), none, .mv (.c (.i .i64 0))⟩,
    ⟨(some 5), none, .mv (.c (.i .i64 0))⟩])
  (.seq
   (.seq
    (.reg [
      ⟨(some 7), none, .mv (.t 1)⟩,
      ⟨(some 8), none, .bin .eql (.t 7) (.c (.i .i64 0))⟩])
    (.ite (.t 8)
     (.seq
      (.reg [
        ⟨(some 4), none, .mv (.c (.i .i64 0))⟩,
        ⟨(some 5), none, .mv (.c (.i .i64 4))⟩])
      .ret)
     .skip))
   (.seq
    (.seq
     (.reg [
       ⟨(some 9), none, .mv (.t 0)⟩,
       ⟨(some 10), none, .bin .eql (.t 9) (.c (.i .i64 (-9223372036854775808)))⟩,
       ⟨(some 11), none, .mv (.t 10)⟩,
       ⟨(some 12), (some (11, true)), .mv (.t 1)⟩,
       ⟨(some 13), (some (11, true)), .bin .eql (.t 12) (.c (.i .i64 (-1)))⟩,
       ⟨(some 14), none, .pick (.t 11) (.t 13) (.c (.b false))⟩])
     (.ite (.t 14)
      (.seq
       (.reg [
         ⟨(some 4), none, .mv (.c (.i .i64 0))⟩,
         ⟨(some 5), none, .mv (.c (.i .i64 3))⟩])
       .ret)
      .skip))
    (.seq
     (.reg [
       ⟨(some 15), none, .mv (.t 0)⟩,
       ⟨(some 16), none, .mv (.t 1)⟩,
       ⟨(some 17), none, .bin .quo (.t 15) (.t 16)⟩,
       ⟨(some 6), none, .mv (.t 17)⟩])
     (.seq
      (.seq
       (.reg [
         ⟨(some 18), none, .mv (.t 0)⟩,
         ⟨(some 19), none, .mv (.t 1)⟩,
         ⟨(some 20), none, .bin .rem (.t 18) (.t 19)⟩,
         ⟨(some 21), none, .bin .neq (.t 20) (.c (.i .i64 0))⟩,
         ⟨(some 22), none, .mv (.t 21)⟩,
         ⟨(some 23), (some (22, true)), .mv (.t 0)⟩,
         ⟨(some 24), (some (22, true)), .bin .lss (.t 23) (.c (.i .i64 0))⟩,
         ⟨(some 25), (some (22, true)), .mv (.t 1)⟩,
         ⟨(some 26), (some (22, true)), .bin .lss (.t 25) (.c (.i .i64 0))⟩,
         ⟨(some 27), (some (22, true)), .eqb true (.t 24) (.t 26)⟩,
         ⟨(some 28), none, .pick (.t 22) (.t 27) (.c (.b false))⟩])
       (.ite (.t 28)
        (.reg [
          ⟨(some 29), none, .mv (.t 6)⟩,
          ⟨(some 30), none, .bin .sub (.t 29) (.c (.i .i64 1))⟩,
          ⟨(some 6), none, .mv (.t 30)⟩])
        .skip))
      (.seq
       (.reg [
         ⟨(some 31), none, .mv (.t 6)⟩,
         ⟨(some 4), none, .mv (.t 31)⟩,
         ⟨(some 5), none, .mv (.c (.i .i64 0))⟩])
       .ret))))))
def num_Floor.r : List Rr := [.tmp 4, .tmp 5]
abbrev num_Floor.n : Nat := 32
def num_Round.c (num_Floor : FuncId) : C :=
 (.seq
  (.reg [
    ⟨(some 4), none, .mv (.c (.i .i64 0))⟩,
    ⟨(some 5), none, .mv (.c (.i .i64 0))⟩])
  (.seq
   (.reg [
     ⟨(some 10), none, .mv (.t 0)⟩,
     ⟨(some 11), none, .mv (.t 1)⟩,
     ⟨(some 12), none, .call num_Floor [(.t 10), (.t 11)]⟩,
     ⟨(some 9), none, .mv (.t 12)⟩,
     ⟨(some 13), none, .ext (.t 9) 0⟩,
     ⟨(some 14), none, .ext (.t 9) 1⟩,
     ⟨(some 6), none, .mv (.t 13)⟩,
     ⟨(some 7), none, .mv (.t 14)⟩])
   (.seq
    (.seq
     (.reg [
       ⟨(some 15), none, .mv (.t 7)⟩,
       ⟨(some 16), none, .bin .neq (.t 15) (.c (.i .i64 0))⟩])
     (.ite (.t 16)
      (.seq
       (.reg [
         ⟨(some 17), none, .mv (.t 7)⟩,
         ⟨(some 4), none, .mv (.c (.i .i64 0))⟩,
         ⟨(some 5), none, .mv (.t 17)⟩])
       .ret)
      .skip))
    (.seq
     (.reg [
       ⟨(some 18), none, .mv (.t 0)⟩,
       ⟨(some 19), none, .mv (.t 6)⟩,
       ⟨(some 20), none, .mv (.t 1)⟩,
       ⟨(some 21), none, .bin .mul (.t 19) (.t 20)⟩,
       ⟨(some 22), none, .bin .sub (.t 18) (.t 21)⟩,
       ⟨(some 8), none, .mv (.t 22)⟩])
     (.seq
      (.seq
       (.reg [
         ⟨(some 23), none, .mv (.t 1)⟩,
         ⟨(some 24), none, .bin .gtr (.t 23) (.c (.i .i64 0))⟩,
         ⟨(some 25), none, .mv (.t 24)⟩,
         ⟨(some 26), (some (25, true)), .mv (.t 8)⟩,
         ⟨(some 27), (some (25, true)), .mv (.t 1)⟩,
         ⟨(some 28), (some (25, true)), .mv (.t 8)⟩,
         ⟨(some 29), (some (25, true)), .bin .sub (.t 27) (.t 28)⟩,
         ⟨(some 30), (some (25, true)), .bin .geq (.t 26) (.t 29)⟩,
         ⟨(some 31), none, .pick (.t 25) (.t 30) (.c (.b false))⟩,
         ⟨(some 32), none, .mv (.t 31)⟩,
         ⟨(some 33), (some (32, false)), .mv (.t 1)⟩,
         ⟨(some 34), (some (32, false)), .bin .lss (.t 33) (.c (.i .i64 0))⟩,
         ⟨(some 35), (some (32, false)), .mv (.t 34)⟩,
         ⟨(some 36), (some (35, true)), .mv (.t 8)⟩,
         ⟨(some 37), (some (35, true)), .mv (.t 1)⟩,
         ⟨(some 38), (some (35, true)), .mv (.t 8)⟩,
         ⟨(some 39), (some (35, true)), .bin .sub (.t 37) (.t 38)⟩,
         ⟨(some 40), (some (35, true)), .bin .leq (.t 36) (.t 39)⟩,
         ⟨(some 41), (some (32, false)), .pick (.t 35) (.t 40) (.c (.b false))⟩,
         ⟨(some 42), none, .pick (.t 32) (.c (.b true)) (.t 41)⟩])
       (.ite (.t 42)
        (.reg [
          ⟨(some 43), none, .mv (.t 6)⟩,
          ⟨(some 44), none, .bin .add (.t 43) (.c (.i .i64 1))⟩,
          ⟨(some 6), none, .mv (.t 44)⟩])
        .skip))
      (.seq
       (.reg [
         ⟨(some 45), none, .mv (.t 6)⟩,
         ⟨(some 4), none, .mv (.t 45)⟩,
         ⟨(some 5), none, .mv (.c (.i .i64 0))⟩])
       .ret))))))
def num_Round.r : List Rr := [.tmp 4, .tmp 5]
abbrev num_Round.n : Nat := 46
def mesh_Check.c (vec_Valid : FuncId) : C :=
 (.seq
  (.reg [
    ⟨(some 1), none, .box (.t 0)⟩,
    ⟨(some 2), none, .mv (.c (.i .i64 0))⟩])
  (.seq
   (.reg [
     ⟨(some 8), none, .fa 0 (.t 1)⟩,
     ⟨(some 9), none, .ld none (.t 8)⟩,
     ⟨(some 10), none, .len 0 (.t 9)⟩,
     ⟨(some 3), none, .mv (.t 10)⟩])
   (.seq
    (.seq
     (.reg [
       ⟨(some 11), none, .mv (.t 3)⟩,
       ⟨(some 12), none, .bin .gtr (.t 11) (.c (.i .i64 4096))⟩,
       ⟨(some 13), none, .mv (.t 12)⟩,
       ⟨(some 14), (some (13, false)), .fa 1 (.t 1)⟩,
       ⟨(some 15), (some (13, false)), .ld none (.t 14)⟩,
       ⟨(some 16), (some (13, false)), .len 0 (.t 15)⟩,
       ⟨(some 17), (some (13, false)), .bin .gtr (.t 16) (.c (.i .i64 4096))⟩,
       ⟨(some 18), none, .pick (.t 13) (.c (.b true)) (.t 17)⟩])
     (.ite (.t 18)
      (.seq
       (.reg [
         ⟨(some 2), none, .mv (.c (.i .i64 2))⟩])
       .ret)
      .skip))
    (.seq
     (.seq
      (.reg [
        ⟨(some 19), none, .fa 0 (.t 1)⟩,
        ⟨(some 20), none, .ld none (.t 19)⟩,
        ⟨(some 21), none, .len 0 (.t 20)⟩,
        ⟨(some 22), none, .mv (.c (.i .i64 0))⟩])
      (.blk 0
       (.loop
        (.seq
         (.reg [
           ⟨(some 23), none, .bin .lss (.t 22) (.t 21)⟩])
         (.seq
          (.ite (.t 23)
           .skip
           (.exit 0))
          (.seq
           (.blk 1
            (.seq
             (.reg [
               ⟨(some 24), none, .ia 3 (.t 20) (.t 22)⟩,
               ⟨(some 25), none, .ld (some 3) (.t 24)⟩,
               ⟨(some 5), none, .alloc [(.i .i64 0), (.i .i64 0), (.i .i64 0)]⟩,
               ⟨none, none, .st 3 (.t 5) (.t 25)⟩])
             (.seq
              (.reg [
                ⟨(some 26), none, .ld (some 3) (.t 5)⟩,
                ⟨(some 27), none, .call vec_Valid [(.t 26)]⟩,
                ⟨(some 28), none, .un .not (.t 27)⟩])
              (.ite (.t 28)
               (.seq
                (.reg [
                  ⟨(some 2), none, .mv (.c (.i .i64 8))⟩])
                .ret)
               .skip))))
           (.reg [
             ⟨(some 29), none, .bin .add (.t 22) (.c (.i .i64 1))⟩,
             ⟨(some 22), none, .mv (.t 29)⟩])))))))
     (.seq
      (.seq
       (.reg [
         ⟨(some 30), none, .fa 1 (.t 1)⟩,
         ⟨(some 31), none, .ld none (.t 30)⟩,
         ⟨(some 32), none, .len 0 (.t 31)⟩,
         ⟨(some 33), none, .mv (.c (.i .i64 0))⟩])
       (.blk 2
        (.loop
         (.seq
          (.reg [
            ⟨(some 34), none, .bin .lss (.t 33) (.t 32)⟩])
          (.seq
           (.ite (.t 34)
            .skip
            (.exit 2))
           (.seq
            (.blk 3
             (.seq
              (.reg [
                ⟨(some 35), none, .ia 3 (.t 31) (.t 33)⟩,
                ⟨(some 36), none, .ld (some 3) (.t 35)⟩,
                ⟨(some 7), none, .alloc [(.i .i64 0), (.i .i64 0), (.i .i64 0)]⟩,
                ⟨none, none, .st 3 (.t 7) (.t 36)⟩])
              (.seq
               (.reg [
                 ⟨(some 37), none, .fa 0 (.t 7)⟩,
                 ⟨(some 38), none, .ld none (.t 37)⟩,
                 ⟨(some 39), none, .fa 1 (.t 7)⟩,
                 ⟨(some 40), none, .ld none (.t 39)⟩,
                 ⟨(some 41), none, .fa 2 (.t 7)⟩,
                 ⟨(some 42), none, .ld none (.t 41)⟩,
                 ⟨(some 43), none, .mn [(.t 38), (.t 40), (.t 42)]⟩,
                 ⟨(some 44), none, .bin .lss (.t 43) (.c (.i .i64 0))⟩,
                 ⟨(some 45), none, .mv (.t 44)⟩,
                 ⟨(some 46), (some (45, false)), .fa 0 (.t 7)⟩,
                 ⟨(some 47), (some (45, false)), .ld none (.t 46)⟩,
                 ⟨(some 48), (some (45, false)), .fa 1 (.t 7)⟩,
                 ⟨(some 49), (some (45, false)), .ld none (.t 48)⟩,
                 ⟨(some 50), (some (45, false)), .fa 2 (.t 7)⟩,
                 ⟨(some 51), (some (45, false)), .ld none (.t 50)⟩,
                 ⟨(some 52), (some (45, false)), .mx [(.t 47), (.t 49), (.t 51)]⟩,
                 ⟨(some 53), (some (45, false)), .mv (.t 3)⟩,
                 ⟨(some 54), (some (45, false)), .bin .geq (.t 52) (.t 53)⟩,
                 ⟨(some 55), none, .pick (.t 45) (.c (.b true)) (.t 54)⟩])
               (.ite (.t 55)
                (.seq
                 (.reg [
                   ⟨(some 2), none, .mv (.c (.i .i64 1))⟩])
                 .ret)
                .skip))))
            (.reg [
              ⟨(some 56), none, .bin .add (.t 33) (.c (.i .i64 1))⟩,
              ⟨(some 33), none, .mv (.t 56)⟩])))))))
      (.seq
       (.reg [
         ⟨(some 2), none, .mv (.c (.i .i64 0))⟩])
       .ret))))))
def mesh_Check.r : List Rr := [.tmp 2]
abbrev mesh_Check.n : Nat := 57
def ref07_Check.c (ref04_Valid : FuncId) : C :=
 (.seq
  (.reg [
    ⟨(some 1), none, .box (.t 0)⟩,
    ⟨(some 2), none, .mv (.c (.i .i64 0))⟩])
  (.seq
   (.seq
    (.reg [
      ⟨(some 8), none, .fa 0 (.t 1)⟩,
      ⟨(some 9), none, .ld none (.t 8)⟩,
      ⟨(some 10), none, .len 0 (.t 9)⟩,
      ⟨(some 11), none, .bin .gtr (.t 10) (.c (.i .i64 4096))⟩,
      ⟨(some 12), none, .mv (.t 11)⟩,
      ⟨(some 13), (some (12, false)), .fa 1 (.t 1)⟩,
      ⟨(some 14), (some (12, false)), .ld none (.t 13)⟩,
      ⟨(some 15), (some (12, false)), .len 0 (.t 14)⟩,
      ⟨(some 16), (some (12, false)), .bin .gtr (.t 15) (.c (.i .i64 4096))⟩,
      ⟨(some 17), none, .pick (.t 12) (.c (.b true)) (.t 16)⟩])
    (.ite (.t 17)
     (.seq
      (.reg [
        ⟨(some 2), none, .mv (.c (.i .i64 2))⟩])
      .ret)
     .skip))
   (.seq
    (.seq
     (.reg [
       ⟨(some 18), none, .fa 0 (.t 1)⟩,
       ⟨(some 19), none, .ld none (.t 18)⟩,
       ⟨(some 20), none, .len 0 (.t 19)⟩,
       ⟨(some 21), none, .mv (.c (.i .i64 0))⟩])
     (.blk 0
      (.loop
       (.seq
        (.reg [
          ⟨(some 22), none, .bin .lss (.t 21) (.t 20)⟩])
        (.seq
         (.ite (.t 22)
          .skip
          (.exit 0))
         (.seq
          (.blk 1
           (.seq
            (.reg [
              ⟨(some 23), none, .ia 3 (.t 19) (.t 21)⟩,
              ⟨(some 24), none, .ld (some 3) (.t 23)⟩,
              ⟨(some 4), none, .alloc [(.i .i64 0), (.i .i64 0), (.i .i64 0)]⟩,
              ⟨none, none, .st 3 (.t 4) (.t 24)⟩])
            (.seq
             (.reg [
               ⟨(some 25), none, .ld (some 3) (.t 4)⟩,
               ⟨(some 26), none, .call ref04_Valid [(.t 25)]⟩,
               ⟨(some 27), none, .un .not (.t 26)⟩])
             (.ite (.t 27)
              (.seq
               (.reg [
                 ⟨(some 2), none, .mv (.c (.i .i64 8))⟩])
               .ret)
              .skip))))
          (.reg [
            ⟨(some 28), none, .bin .add (.t 21) (.c (.i .i64 1))⟩,
            ⟨(some 21), none, .mv (.t 28)⟩])))))))
    (.seq
     (.reg [
       ⟨(some 29), none, .fa 0 (.t 1)⟩,
       ⟨(some 30), none, .ld none (.t 29)⟩,
       ⟨(some 31), none, .len 0 (.t 30)⟩,
       ⟨(some 5), none, .mv (.t 31)⟩])
     (.seq
      (.seq
       (.reg [
         ⟨(some 32), none, .fa 1 (.t 1)⟩,
         ⟨(some 33), none, .ld none (.t 32)⟩,
         ⟨(some 34), none, .len 0 (.t 33)⟩,
         ⟨(some 35), none, .mv (.c (.i .i64 0))⟩])
       (.blk 2
        (.loop
         (.seq
          (.reg [
            ⟨(some 36), none, .bin .lss (.t 35) (.t 34)⟩])
          (.seq
           (.ite (.t 36)
            .skip
            (.exit 2))
           (.seq
            (.blk 3
             (.seq
              (.reg [
                ⟨(some 37), none, .ia 3 (.t 33) (.t 35)⟩,
                ⟨(some 38), none, .ld (some 3) (.t 37)⟩,
                ⟨(some 7), none, .alloc [(.i .i64 0), (.i .i64 0), (.i .i64 0)]⟩,
                ⟨none, none, .st 3 (.t 7) (.t 38)⟩])
              (.seq
               (.reg [
                 ⟨(some 39), none, .fa 0 (.t 7)⟩,
                 ⟨(some 40), none, .ld none (.t 39)⟩,
                 ⟨(some 41), none, .bin .lss (.t 40) (.c (.i .i64 0))⟩,
                 ⟨(some 42), none, .mv (.t 41)⟩,
                 ⟨(some 43), (some (42, false)), .fa 0 (.t 7)⟩,
                 ⟨(some 44), (some (42, false)), .ld none (.t 43)⟩,
                 ⟨(some 45), (some (42, false)), .mv (.t 5)⟩,
                 ⟨(some 46), (some (42, false)), .bin .geq (.t 44) (.t 45)⟩,
                 ⟨(some 47), none, .pick (.t 42) (.c (.b true)) (.t 46)⟩,
                 ⟨(some 48), none, .mv (.t 47)⟩,
                 ⟨(some 49), (some (48, false)), .fa 1 (.t 7)⟩,
                 ⟨(some 50), (some (48, false)), .ld none (.t 49)⟩,
                 ⟨(some 51), (some (48, false)), .bin .lss (.t 50) (.c (.i .i64 0))⟩,
                 ⟨(some 52), none, .pick (.t 48) (.c (.b true)) (.t 51)⟩,
                 ⟨(some 53), none, .mv (.t 52)⟩,
                 ⟨(some 54), (some (53, false)), .fa 1 (.t 7)⟩,
                 ⟨(some 55), (some (53, false)), .ld none (.t 54)⟩,
                 ⟨(some 56), (some (53, false)), .mv (.t 5)⟩,
                 ⟨(some 57), (some (53, false)), .bin .geq (.t 55) (.t 56)⟩,
                 ⟨(some 58), none, .pick (.t 53) (.c (.b true)) (.t 57)⟩,
                 ⟨(some 59), none, .mv (.t 58)⟩,
                 ⟨(some 60), (some (59, false)), .fa 2 (.t 7)⟩,
                 ⟨(some 61), (some (59, false)), .ld none (.t 60)⟩,
                 ⟨(some 62), (some (59, false)), .bin .lss (.t 61) (.c (.i .i64 0))⟩,
                 ⟨(some 63), none, .pick (.t 59) (.c (.b true)) (.t 62)⟩,
                 ⟨(some 64), none, .mv (.t 63)⟩,
                 ⟨(some 65), (some (64, false)), .fa 2 (.t 7)⟩,
                 ⟨(some 66), (some (64, false)), .ld none (.t 65)⟩,
                 ⟨(some 67), (some (64, false)), .mv (.t 5)⟩,
                 ⟨(some 68), (some (64, false)), .bin .geq (.t 66) (.t 67)⟩,
                 ⟨(some 69), none, .pick (.t 64) (.c (.b true)) (.t 68)⟩])
               (.ite (.t 69)
                (.seq
                 (.reg [
                   ⟨(some 2), none, .mv (.c (.i .i64 1))⟩])
                 .ret)
                .skip))))
            (.reg [
              ⟨(some 70), none, .bin .add (.t 35) (.c (.i .i64 1))⟩,
              ⟨(some 35), none, .mv (.t 70)⟩])))))))
      (.seq
       (.reg [
         ⟨(some 2), none, .mv (.c (.i .i64 0))⟩])
       .ret))))))
def ref07_Check.r : List Rr := [.tmp 2]
abbrev ref07_Check.n : Nat := 71
def mesh_Corners.c (mesh_Check : FuncId) : C :=
 (.seq
  (.reg [
    ⟨(some 2), none, .box (.t 0)⟩,
    ⟨(some 4), none, .alloc [(.i .i64 0), (.i .i64 0), (.i .i64 0)]⟩,
    ⟨(some 5), none, .alloc [(.i .i64 0), (.i .i64 0), (.i .i64 0)]⟩,
    ⟨(some 6), none, .alloc [(.i .i64 0), (.i .i64 0), (.i .i64 0)]⟩,
    ⟨(some 7), none, .mv (.c (.b false))⟩])
  (.seq
   (.seq
    (.reg [
      ⟨(some 9), none, .mv (.t 1)⟩,
      ⟨(some 10), none, .bin .lss (.t 9) (.c (.i .i64 0))⟩,
      ⟨(some 11), none, .mv (.t 10)⟩,
      ⟨(some 12), (some (11, false)), .mv (.t 1)⟩,
      ⟨(some 13), (some (11, false)), .fa 1 (.t 2)⟩,
      ⟨(some 14), (some (11, false)), .ld none (.t 13)⟩,
      ⟨(some 15), (some (11, false)), .len 0 (.t 14)⟩,
      ⟨(some 16), (some (11, false)), .bin .geq (.t 12) (.t 15)⟩,
      ⟨(some 17), none, .pick (.t 11) (.c (.b true)) (.t 16)⟩,
      ⟨(some 18), none, .mv (.t 17)⟩,
      ⟨(some 19), (some (18, false)), .ld (some 2) (.t 2)⟩,
      ⟨(some 20), (some (18, false)), .call mesh_Check [(.t 19)]⟩,
      ⟨(some 21), (some (18, false)), .bin .neq (.t 20) (.c (.i .i64 0))⟩,
      ⟨(some 22), none, .pick (.t 18) (.c (.b true)) (.t 21)⟩])
    (.ite (.t 22)
     (.seq
      (.reg [
        ⟨(some 23), none, .build [(.i .i64 0), (.i .i64 0), (.i .i64 0)] []⟩,
        ⟨(some 24), none, .build [(.i .i64 0), (.i .i64 0), (.i .i64 0)] []⟩,
        ⟨(some 25), none, .build [(.i .i64 0), (.i .i64 0), (.i .i64 0)] []⟩,
        ⟨none, none, .st 3 (.t 4) (.t 23)⟩,
        ⟨none, none, .st 3 (.t 5) (.t 24)⟩,
        ⟨none, none, .st 3 (.t 6) (.t 25)⟩,
        ⟨(some 7), none, .mv (.c (.b false))⟩])
      .ret)
     .skip))
   (.seq
    (.reg [
      ⟨(some 26), none, .fa 1 (.t 2)⟩,
      ⟨(some 27), none, .ld none (.t 26)⟩,
      ⟨(some 28), none, .mv (.t 1)⟩,
      ⟨(some 29), none, .ia 3 (.t 27) (.t 28)⟩,
      ⟨(some 30), none, .ld (some 3) (.t 29)⟩,
      ⟨(some 8), none, .alloc [(.i .i64 0), (.i .i64 0), (.i .i64 0)]⟩,
      ⟨none, none, .st 3 (.t 8) (.t 30)⟩])
    (.seq
     (.drw [
       ⟨(some 31), none, .fa 0 (.t 2)⟩,
       ⟨(some 32), none, .ld none (.t 31)⟩,
       ⟨(some 33), none, .fa 0 (.t 8)⟩,
       ⟨(some 34), none, .ld none (.t 33)⟩,
       ⟨(some 35), none, .ia 3 (.t 32) (.t 34)⟩,
       ⟨(some 36), none, .ld (some 3) (.t 35)⟩,
       ⟨(some 37), none, .fa 0 (.t 2)⟩,
       ⟨(some 38), none, .ld none (.t 37)⟩,
       ⟨(some 39), none, .fa 1 (.t 8)⟩,
       ⟨(some 40), none, .ld none (.t 39)⟩,
       ⟨(some 41), none, .ia 3 (.t 38) (.t 40)⟩,
       ⟨(some 42), none, .ld (some 3) (.t 41)⟩,
       ⟨(some 43), none, .fa 0 (.t 2)⟩,
       ⟨(some 44), none, .ld none (.t 43)⟩,
       ⟨(some 45), none, .fa 2 (.t 8)⟩,
       ⟨(some 46), none, .ld none (.t 45)⟩,
       ⟨(some 47), none, .ia 3 (.t 44) (.t 46)⟩,
       ⟨(some 48), none, .ld (some 3) (.t 47)⟩,
       ⟨none, none, .st 3 (.t 4) (.t 36)⟩,
       ⟨none, none, .st 3 (.t 5) (.t 42)⟩,
       ⟨none, none, .st 3 (.t 6) (.t 48)⟩,
       ⟨(some 7), none, .mv (.c (.b true))⟩] [[], [], [], [], [], [], [], [], [], [], [], [], [], [], [], [], [], [], [6, 7, 8, 9, 10, 11, 12, 13, 14, 15, 16, 17], [12, 13, 14, 15, 16, 17], [], []])
     .ret))))
def mesh_Corners.r : List Rr := [.cell 4 (some 3), .cell 5 (some 3), .cell 6 (some 3), .tmp 7]
abbrev mesh_Corners.n : Nat := 49
def mesh_Reverse.c (mesh_Check : FuncId) : C :=
 (.seq
  (.reg [
    ⟨(some 1), none, .box (.t 0)⟩,
    ⟨(some 2), none, .alloc [.nil, .nil]⟩])
  (.seq
   (.seq
    (.reg [
      ⟨(some 6), none, .ld (some 2) (.t 1)⟩,
      ⟨(some 7), none, .call mesh_Check [(.t 6)]⟩,
      ⟨(some 8), none, .bin .neq (.t 7) (.c (.i .i64 0))⟩])
    (.ite (.t 8)
     (.seq
      (.reg [
        ⟨(some 9), none, .build [.nil, .nil] []⟩,
        ⟨none, none, .st 2 (.t 2) (.t 9)⟩])
      .ret)
     .skip))
   (.seq
    (.reg [
      ⟨(some 10), none, .bso 3 0 [(.i .i64 0), (.i .i64 0), (.i .i64 0)] []⟩,
      ⟨(some 11), none, .fa 0 (.t 1)⟩,
      ⟨(some 12), none, .ld none (.t 11)⟩,
      ⟨(some 13), none, .app 3 24 (.t 10) (.t 12)⟩,
      ⟨(some 14), none, .build [.nil, .nil] [(0, 1, (.t 13))]⟩,
      ⟨(some 3), none, .alloc [.nil, .nil]⟩,
      ⟨none, none, .st 2 (.t 3) (.t 14)⟩])
    (.seq
     (.seq
      (.reg [
        ⟨(some 15), none, .fa 1 (.t 1)⟩,
        ⟨(some 16), none, .ld none (.t 15)⟩,
        ⟨(some 17), none, .len 0 (.t 16)⟩,
        ⟨(some 18), none, .mv (.c (.i .i64 0))⟩])
      (.blk 0
       (.loop
        (.seq
         (.reg [
           ⟨(some 19), none, .bin .lss (.t 18) (.t 17)⟩])
         (.seq
          (.ite (.t 19)
           .skip
           (.exit 0))
          (.seq
           (.blk 1
            (.seq
             (.reg [
               ⟨(some 20), none, .ia 3 (.t 16) (.t 18)⟩,
               ⟨(some 21), none, .ld (some 3) (.t 20)⟩,
               ⟨(some 5), none, .alloc [(.i .i64 0), (.i .i64 0), (.i .i64 0)]⟩,
               ⟨none, none, .st 3 (.t 5) (.t 21)⟩])
             (.reg [
               ⟨(some 22), none, .fa 1 (.t 3)⟩,
               ⟨(some 23), none, .ld none (.t 22)⟩,
               ⟨(some 24), none, .fa 0 (.t 5)⟩,
               ⟨(some 25), none, .ld none (.t 24)⟩,
               ⟨(some 26), none, .fa 2 (.t 5)⟩,
               ⟨(some 27), none, .ld none (.t 26)⟩,
               ⟨(some 28), none, .fa 1 (.t 5)⟩,
               ⟨(some 29), none, .ld none (.t 28)⟩,
               ⟨(some 30), none, .build [(.i .i64 0), (.i .i64 0), (.i .i64 0)] [(0, 1, (.t 25)), (1, 1, (.t 27)), (2, 1, (.t 29))]⟩,
               ⟨(some 31), none, .bsi 3 1 [(.i .i64 0), (.i .i64 0), (.i .i64 0)] [(0, (.t 30))]⟩,
               ⟨(some 32), none, .app 3 24 (.t 23) (.t 31)⟩,
               ⟨(some 33), none, .fa 1 (.t 3)⟩,
               ⟨none, none, .st 1 (.t 33) (.t 32)⟩])))
           (.reg [
             ⟨(some 34), none, .bin .add (.t 18) (.c (.i .i64 1))⟩,
             ⟨(some 18), none, .mv (.t 34)⟩])))))))
     (.seq
      (.reg [
        ⟨(some 35), none, .ld (some 2) (.t 3)⟩,
        ⟨none, none, .st 2 (.t 2) (.t 35)⟩])
      .ret)))))
def mesh_Reverse.r : List Rr := [.cell 2 (some 2)]
abbrev mesh_Reverse.n : Nat := 36

end Go.Abs

