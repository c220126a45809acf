/- Part of the abstract machine on which the proof stands: its values, code and their soundness against the model. -/
import Derived.Test.YtlmjnmmppffhaaaGoHeap
set_option linter.unusedVariables false
set_option linter.unusedSimpArgs false
namespace Go.Abs

def vec_within.c : C :=
 (.seq
  (.reg [
    ⟨(some 2), none, .box (.t 0)⟩,
    ⟨(some 4), none, .mv (.c (.b false))⟩])
  (.seq
   (.reg [
     ⟨(some 5), none, .fa 0 (.t 2)⟩,
     ⟨(some 6), none, .ld none (.t 5)⟩,
     ⟨(some 7), none, .mv (.t 1)⟩,
     ⟨(some 8), none, .un .neg (.t 7)⟩,
     ⟨(some 9), none, .bin .geq (.t 6) (.t 8)⟩,
     ⟨(some 10), none, .mv (.t 9)⟩,
     ⟨(some 11), (some (10, true)), .fa 0 (.t 2)⟩,
     ⟨(some 12), (some (10, true)), .ld none (.t 11)⟩,
     ⟨(some 13), (some (10, true)), .mv (.t 1)⟩,
     ⟨(some 14), (some (10, true)), .bin .leq (.t 12) (.t 13)⟩,
     ⟨(some 15), none, .pick (.t 10) (.t 14) (.c (.b false))⟩,
     ⟨(some 16), none, .mv (.t 15)⟩,
     ⟨(some 17), (some (16, true)), .fa 1 (.t 2)⟩,
     ⟨(some 18), (some (16, true)), .ld none (.t 17)⟩,
     ⟨(some 19), (some (16, true)), .mv (.t 1)⟩,
     ⟨(some 20), (some (16, true)), .un .neg (.t 19)⟩,
     ⟨(some 21), (some (16, true)), .bin .geq (.t 18) (.t 20)⟩,
     ⟨(some 22), none, .pick (.t 16) (.t 21) (.c (.b false))⟩,
     ⟨(some 23), none, .mv (.t 22)⟩,
     ⟨(some 24), (some (23, true)), .fa 1 (.t 2)⟩,
     ⟨(some 25), (some (23, true)), .ld none (.t 24)⟩,
     ⟨(some 26), (some (23, true)), .mv (.t 1)⟩,
     ⟨(some 27), (some (23, true)), .bin .leq (.t 25) (.t 26)⟩,
     ⟨(some 28), none, .pick (.t 23) (.t 27) (.c (.b false))⟩,
     ⟨(some 29), none, .mv (.t 28)⟩,
     ⟨(some 30), (some (29, true)), .fa 2 (.t 2)⟩,
     ⟨(some 31), (some (29, true)), .ld none (.t 30)⟩,
     ⟨(some 32), (some (29, true)), .mv (.t 1)⟩,
     ⟨(some 33), (some (29, true)), .un .neg (.t 32)⟩,
     ⟨(some 34), (some (29, true)), .bin .geq (.t 31) (.t 33)⟩,
     ⟨(some 35), none, .pick (.t 29) (.t 34) (.c (.b false))⟩,
     ⟨(some 36), none, .mv (.t 35)⟩,
     ⟨(some 37), (some (36, true)), .fa 2 (.t 2)⟩,
     ⟨(some 38), (some (36, true)), .ld none (.t 37)⟩,
     ⟨(some 39), (some (36, true)), .mv (.t 1)⟩,
     ⟨(some 40), (some (36, true)), .bin .leq (.t 38) (.t 39)⟩,
     ⟨(some 41), none, .pick (.t 36) (.t 40) (.c (.b false))⟩,
     ⟨(some 4), none, .mv (.t 41)⟩])
   .ret))
def vec_within.r : List Rr := [.tmp 4]
abbrev vec_within.n : Nat := 42
def vec_Valid.c (vec_within : FuncId) : C :=
 (.seq
  (.reg [
    ⟨(some 1), none, .box (.t 0)⟩,
    ⟨(some 2), none, .mv (.c (.b false))⟩])
  (.seq
   (.reg [
     ⟨(some 3), none, .ld (some 3) (.t 1)⟩,
     ⟨(some 4), none, .call vec_within [(.t 3), (.c (.i .i64 65536))]⟩,
     ⟨(some 2), none, .mv (.t 4)⟩])
   .ret))
def vec_Valid.r : List Rr := [.tmp 2]
abbrev vec_Valid.n : Nat := 5
def ref04_within.c : C :=
 (.seq
  (.reg [
    ⟨(some 2), none, .box (.t 0)⟩,
    ⟨(some 4), none, .mv (.c (.b false))⟩])
  (.seq
   (.reg [
     ⟨(some 5), none, .fa 0 (.t 2)⟩,
     ⟨(some 6), none, .ld none (.t 5)⟩,
     ⟨(some 7), none, .mv (.t 1)⟩,
     ⟨(some 8), none, .un .neg (.t 7)⟩,
     ⟨(some 9), none, .bin .geq (.t 6) (.t 8)⟩,
     ⟨(some 10), none, .mv (.t 9)⟩,
     ⟨(some 11), (some (10, true)), .fa 0 (.t 2)⟩,
     ⟨(some 12), (some (10, true)), .ld none (.t 11)⟩,
     ⟨(some 13), (some (10, true)), .mv (.t 1)⟩,
     ⟨(some 14), (some (10, true)), .bin .leq (.t 12) (.t 13)⟩,
     ⟨(some 15), none, .pick (.t 10) (.t 14) (.c (.b false))⟩,
     ⟨(some 16), none, .mv (.t 15)⟩,
     ⟨(some 17), (some (16, true)), .fa 1 (.t 2)⟩,
     ⟨(some 18), (some (16, true)), .ld none (.t 17)⟩,
     ⟨(some 19), (some (16, true)), .mv (.t 1)⟩,
     ⟨(some 20), (some (16, true)), .un .neg (.t 19)⟩,
     ⟨(some 21), (some (16, true)), .bin .geq (.t 18) (.t 20)⟩,
     ⟨(some 22), none, .pick (.t 16) (.t 21) (.c (.b false))⟩,
     ⟨(some 23), none, .mv (.t 22)⟩,
     ⟨(some 24), (some (23, true)), .fa 1 (.t 2)⟩,
     ⟨(some 25), (some (23, true)), .ld none (.t 24)⟩,
     ⟨(some 26), (some (23, true)), .mv (.t 1)⟩,
     ⟨(some 27), (some (23, true)), .bin .leq (.t 25) (.t 26)⟩,
     ⟨(some 28), none, .pick (.t 23) (.t 27) (.c (.b false))⟩,
     ⟨(some 29), none, .mv (.t 28)⟩,
     ⟨(some 30), (some (29, true)), .fa 2 (.t 2)⟩,
     ⟨(some 31), (some (29, true)), .ld none (.t 30)⟩,
     ⟨(some 32), (some (29, true)), .mv (.t 1)⟩,
     ⟨(some 33), (some (29, true)), .un .neg (.t 32)⟩,
     ⟨(some 34), (some (29, true)), .bin .geq (.t 31) (.t 33)⟩,
     ⟨(some 35), none, .pick (.t 29) (.t 34) (.c (.b false))⟩,
     ⟨(some 36), none, .mv (.t 35)⟩,
     ⟨(some 37), (some (36, true)), .fa 2 (.t 2)⟩,
     ⟨(some 38), (some (36, true)), .ld none (.t 37)⟩,
     ⟨(some 39), (some (36, true)), .mv (.t 1)⟩,
     ⟨(some 40), (some (36, true)), .bin .leq (.t 38) (.t 39)⟩,
     ⟨(some 41), none, .pick (.t 36) (.t 40) (.c (.b false))⟩,
     ⟨(some 4), none, .mv (.t 41)⟩])
   .ret))
def ref04_within.r : List Rr := [.tmp 4]
abbrev ref04_within.n : Nat := 42
def ref04_Valid.c (ref04_within : FuncId) : C :=
 (.seq
  (.reg [
    ⟨(some 1), none, .box (.t 0)⟩,
    ⟨(some 2), none, .mv (.c (.b false))⟩])
  (.seq
   (.reg [
     ⟨(some 3), none, .ld (some 3) (.t 1)⟩,
     ⟨(some 4), none, .call ref04_within [(.t 3), (.c (.i .i64 65536))]⟩,
     ⟨(some 2), none, .mv (.t 4)⟩])
   .ret))
def ref04_Valid.r : List Rr := [.tmp 2]
abbrev ref04_Valid.n : Nat := 5
def num_Floor.c : C :=
 (.seq
  (.reg [
    ⟨(some 4), none, .mv (.c (.i .i64 0))⟩,
    ⟨(some 5), none, .mv (.c (.i .i64 0))⟩])
  (.seq
   (.seq
    (.reg [
      ⟨(some 7), none, .mv (.t 1)⟩,
      ⟨(some 8), none, .bin .eql (.t 7) (.c (.i .i64 0))⟩])
    (.ite (.t 8)
     (.seq
      (.reg [
        ⟨(some 4), none, .mv (.c (.i .i64 0))⟩,
        ⟨(some 5), none, .mv (.c (.i .i64 4))⟩])
      .ret)
     .skip))
   (.seq
    (.seq
     (.reg [
       ⟨(some 9), none, .mv (.t 0)⟩,
       ⟨(some 10), none, .bin .eql (.t 9) (.c (.i .i64 (-9223372036854775808)))⟩,
       ⟨(some 11), none, .mv (.t 10)⟩,
       ⟨(some 12), (some (11, true)), .mv (.t 1)⟩,
       ⟨(some 13), (some (11, true)), .bin .eql (.t 12) (.c (.i .i64 (-1)))⟩,
       ⟨(some 14), none, .pick (.t 11) (.t 13) (.c (.b false))⟩])
     (.ite (.t 14)
      (.seq
       (.reg [
         ⟨(some 4), none, .mv (.c (.i .i64 0))⟩,
         ⟨(some 5), none, .mv (.c (.i .i64 3))⟩])
       .ret)
      .skip))
    (.seq
     (.reg [
       ⟨(some 15), none, .mv (.t 0)⟩,
       ⟨(some 16), none, .mv (.t 1)⟩,
       ⟨(some 17), none, .bin .quo (.t 15) (.t 16)⟩,
       ⟨(some 6), none, .mv (.t 17)⟩])
     (.seq
      (.seq
       (.reg [
         ⟨(some 18), none, .mv (.t 0)⟩,
         ⟨(some 19), none, .mv (.t 1)⟩,
         ⟨(some 20), none, .bin .rem (.t 18) (.t 19)⟩,
         ⟨(some 21), none, .bin .neq (.t 20) (.c (.i .i64 0))⟩,
         ⟨(some 22), none, .mv (.t 21)⟩,
         ⟨(some 23), (some (22, true)), .mv (.t 0)⟩,
         ⟨(some 24), (some (22, true)), .bin .lss (.t 23) (.c (.i .i64 0))⟩,
         ⟨(some 25), (some (22, true)), .mv (.t 1)⟩,
         ⟨(some 26), (some (22, true)), .bin .lss (.t 25) (.c (.i .i64 0))⟩,
         ⟨(some 27), (some (22, true)), .eqb true (.t 24) (.t 26)⟩,
         ⟨(some 28), none, .pick (.t 22) (.t 27) (.c (.b false))⟩])
       (.ite (.t 28)
        (.reg [
          ⟨(some 29), none, .mv (.t 6)⟩,
          ⟨(some 30), none, .bin .sub (.t 29) (.c (.i .i64 1))⟩,
          ⟨(some 6), none, .mv (.t 30)⟩])
        .skip))
      (.seq
       (.reg [
         ⟨(some 31), none, .mv (.t 6)⟩,
         ⟨(some 4), none, .mv (.t 31)⟩,
         ⟨(some 5), none, .mv (.c (.i .i64 0))⟩])
       .ret))))))
def num_Floor.r : List Rr := [.tmp 4, .tmp 5]
abbrev num_Floor.n : Nat := 32
def num_Round.c (num_Floor : FuncId) : C :=
 (.seq
  (.reg [
    ⟨(some 4), none, .mv (.c (.i .i64 0))⟩,
    ⟨(some 5), none, .mv (.c (.i .i64 0))⟩])
  (.seq
   (.reg [
     ⟨(some 10), none, .mv (.t 0)⟩,
     ⟨(some 11), none, .mv (.t 1)⟩,
     ⟨(some 12), none, .call num_Floor [(.t 10), (.t 11)]⟩,
     ⟨(some 9), none, .mv (.t 12)⟩,
     ⟨(some 13), none, .ext (.t 9) 0⟩,
     ⟨(some 14), none, .ext (.t 9) 1⟩,
     ⟨(some 6), none, .mv (.t 13)⟩,
     ⟨(some 7), none, .mv (.t 14)⟩])
   (.seq
    (.seq
     (.reg [
       ⟨(some 15), none, .mv (.t 7)⟩,
       ⟨(some 16), none, .bin .neq (.t 15) (.c (.i .i64 0))⟩])
     (.ite (.t 16)
      (.seq
       (.reg [
         ⟨(some 17), none, .mv (.t 7)⟩,
         ⟨(some 4), none, .mv (.c (.i .i64 0))⟩,
         ⟨(some 5), none, .mv (.t 17)⟩])
       .ret)
      .skip))
    (.seq
     (.reg [
       ⟨(some 18), none, .mv (.t 0)⟩,
       ⟨(some 19), none, .mv (.t 6)⟩,
       ⟨(some 20), none, .mv (.t 1)⟩,
       ⟨(some 21), none, .bin .mul (.t 19) (.t 20)⟩,
       ⟨(some 22), none, .bin .sub (.t 18) (.t 21)⟩,
       ⟨(some 8), none, .mv (.t 22)⟩])
     (.seq
      (.seq
       (.reg [
         ⟨(some 23), none, .mv (.t 1)⟩,
         ⟨(some 24), none, .bin .gtr (.t 23) (.c (.i .i64 0))⟩,
         ⟨(some 25), none, .mv (.t 24)⟩,
         ⟨(some 26), (some (25, true)), .mv (.t 8)⟩,
         ⟨(some 27), (some (25, true)), .mv (.t 1)⟩,
         ⟨(some 28), (some (25, true)), .mv (.t 8)⟩,
         ⟨(some 29), (some (25, true)), .bin .sub (.t 27) (.t 28)⟩,
         ⟨(some 30), (some (25, true)), .bin .geq (.t 26) (.t 29)⟩,
         ⟨(some 31), none, .pick (.t 25) (.t 30) (.c (.b false))⟩,
         ⟨(some 32), none, .mv (.t 31)⟩,
         ⟨(some 33), (some (32, false)), .mv (.t 1)⟩,
         ⟨(some 34), (some (32, false)), .bin .lss (.t 33) (.c (.i .i64 0))⟩,
         ⟨(some 35), (some (32, false)), .mv (.t 34)⟩,
         ⟨(some 36), (some (35, true)), .mv (.t 8)⟩,
         ⟨(some 37), (some (35, true)), .mv (.t 1)⟩,
         ⟨(some 38), (some (35, true)), .mv (.t 8)⟩,
         ⟨(some 39), (some (35, true)), .bin .sub (.t 37) (.t 38)⟩,
         ⟨(some 40), (some (35, true)), .bin .leq (.t 36) (.t 39)⟩,
         ⟨(some 41), (some (32, false)), .pick (.t 35) (.t 40) (.c (.b false))⟩,
         ⟨(some 42), none, .pick (.t 32) (.c (.b true)) (.t 41)⟩])
       (.ite (.t 42)
        (.reg [
          ⟨(some 43), none, .mv (.t 6)⟩,
          ⟨(some 44), none, .bin .add (.t 43) (.c (.i .i64 1))⟩,
          ⟨(some 6), none, .mv (.t 44)⟩])
        .skip))
      (.seq
       (.reg [
         ⟨(some 45), none, .mv (.t 6)⟩,
         ⟨(some 4), none, .mv (.t 45)⟩,
         ⟨(some 5), none, .mv (.c (.i .i64 0))⟩])
       .ret))))))
def num_Round.r : List Rr := [.tmp 4, .tmp 5]
abbrev num_Round.n : Nat := 46
def mesh_Check.c (vec_Valid : FuncId) : C :=
 (.seq
  (.reg [
    ⟨(some 1), none, .box (.t 0)⟩,
    ⟨(some 2), none, .mv (.c (.i .i64 0))⟩])
  (.seq
   (.reg [
     ⟨(some 8), none, .fa 0 (.t 1)⟩,
     ⟨(some 9), none, .ld none (.t 8)⟩,
     ⟨(some 10), none, .len 0 (.t 9)⟩,
     ⟨(some 3), none, .mv (.t 10)⟩])
   (.seq
    (.seq
     (.reg [
       ⟨(some 11), none, .mv (.t 3)⟩,
       ⟨(some 12), none, .bin .gtr (.t 11) (.c (.i .i64 4096))⟩,
       ⟨(some 13), none, .mv (.t 12)⟩,
       ⟨(some 14), (some (13, false)), .fa 1 (.t 1)⟩,
       ⟨(some 15), (some (13, false)), .ld none (.t 14)⟩,
       ⟨(some 16), (some (13, false)), .len 0 (.t 15)⟩,
       ⟨(some 17), (some (13, false)), .bin .gtr (.t 16) (.c (.i .i64 4096))⟩,
       ⟨(some 18), none, .pick (.t 13) (.c (.b true)) (.t 17)⟩])
     (.ite (.t 18)
      (.seq
       (.reg [
         ⟨(some 2), none, .mv (.c (.i .i64 2))⟩])
       .ret)
      .skip))
    (.seq
     (.seq
      (.reg [
        ⟨(some 19), none, .fa 0 (.t 1)⟩,
        ⟨(some 20), none, .ld none (.t 19)⟩,
        ⟨(some 21), none, .len 0 (.t 20)⟩,
        ⟨(some 22), none, .mv (.c (.i .i64 0))⟩])
      (.blk 0
       (.loop
        (.seq
         (.reg [
           ⟨(some 23), none, .bin .lss (.t 22) (.t 21)⟩])
         (.seq
          (.ite (.t 23)
           .skip
           (.exit 0))
          (.seq
           (.blk 1
            (.seq
             (.reg [
               ⟨(some 24), none, .ia 3 (.t 20) (.t 22)⟩,
               ⟨(some 25), none, .ld (some 3) (.t 24)⟩,
               ⟨(some 5), none, .alloc [(.i .i64 0), (.i .i64 0), (.i .i64 0)]⟩,
               ⟨none, none, .st 3 (.t 5) (.t 25)⟩])
             (.seq
              (.reg [
                ⟨(some 26), none, .ld (some 3) (.t 5)⟩,
                ⟨(some 27), none, .call vec_Valid [(.t 26)]⟩,
                ⟨(some 28), none, .un .not (.t 27)⟩])
              (.ite (.t 28)
               (.seq
                (.reg [
                  ⟨(some 2), none, .mv (.c (.i .i64 8))⟩])
                .ret)
               .skip))))
           (.reg [
             ⟨(some 29), none, .bin .add (.t 22) (.c (.i .i64 1))⟩,
             ⟨(some 22), none, .mv (.t 29)⟩])))))))
     (.seq
      (.seq
       (.reg [
         ⟨(some 30), none, .fa 1 (.t 1)⟩,
         ⟨(some 31), none, .ld none (.t 30)⟩,
         ⟨(some 32), none, .len 0 (.t 31)⟩,
         ⟨(some 33), none, .mv (.c (.i .i64 0))⟩])
       (.blk 2
        (.loop
         (.seq
          (.reg [
            ⟨(some 34), none, .bin .lss (.t 33) (.t 32)⟩])
          (.seq
           (.ite (.t 34)
            .skip
            (.exit 2))
           (.seq
            (.blk 3
             (.seq
              (.reg [
                ⟨(some 35), none, .ia 3 (.t 31) (.t 33)⟩,
                ⟨(some 36), none, .ld (some 3) (.t 35)⟩,
                ⟨(some 7), none, .alloc [(.i .i64 0), (.i .i64 0), (.i .i64 0)]⟩,
                ⟨none, none, .st 3 (.t 7) (.t 36)⟩])
              (.seq
               (.reg [
                 ⟨(some 37), none, .fa 0 (.t 7)⟩,
                 ⟨(some 38), none, .ld none (.t 37)⟩,
                 ⟨(some 39), none, .fa 1 (.t 7)⟩,
                 ⟨(some 40), none, .ld none (.t 39)⟩,
                 ⟨(some 41), none, .fa 2 (.t 7)⟩,
                 ⟨(some 42), none, .ld none (.t 41)⟩,
                 ⟨(some 43), none, .mn [(.t 38), (.t 40), (.t 42)]⟩,
                 ⟨(some 44), none, .bin .lss (.t 43) (.c (.i .i64 0))⟩,
                 ⟨(some 45), none, .mv (.t 44)⟩,
                 ⟨(some 46), (some (45, false)), .fa 0 (.t 7)⟩,
                 ⟨(some 47), (some (45, false)), .ld none (.t 46)⟩,
                 ⟨(some 48), (some (45, false)), .fa 1 (.t 7)⟩,
                 ⟨(some 49), (some (45, false)), .ld none (.t 48)⟩,
                 ⟨(some 50), (some (45, false)), .fa 2 (.t 7)⟩,
                 ⟨(some 51), (some (45, false)), .ld none (.t 50)⟩,
                 ⟨(some 52), (some (45, false)), .mx [(.t 47), (.t 49), (.t 51)]⟩,
                 ⟨(some 53), (some (45, false)), .mv (.t 3)⟩,
                 ⟨(some 54), (some (45, false)), .bin .geq (.t 52) (.t 53)⟩,
                 ⟨(some 55), none, .pick (.t 45) (.c (.b true)) (.t 54)⟩])
               (.ite (.t 55)
                (.seq
                 (.reg [
                   ⟨(some 2), none, .mv (.c (.i .i64 1))⟩])
                 .ret)
                .skip))))
            (.reg [
              ⟨(some 56), none, .bin .add (.t 33) (.c (.i .i64 1))⟩,
              ⟨(some 33), none, .mv (.t 56)⟩])))))))
      (.seq
       (.reg [
         ⟨(some 2), none, .mv (.c (.i .i64 0))⟩])
       .ret))))))
def mesh_Check.r : List Rr := [.tmp 2]
abbrev mesh_Check.n : Nat := 57
def ref07_Check.c (ref04_Valid : FuncId) : C :=
 (.seq
  (.reg [
    ⟨(some 1), none, .box (.t 0)⟩,
    ⟨(some 2), none, .mv (.c (.i .i64 0))⟩])
  (.seq
   (.seq
    (.reg [
      ⟨(some 8), none, .fa 0 (.t 1)⟩,
      ⟨(some 9), none, .ld none (.t 8)⟩,
      ⟨(some 10), none, .len 0 (.t 9)⟩,
      ⟨(some 11), none, .bin .gtr (.t 10) (.c (.i .i64 4096))⟩,
      ⟨(some 12), none, .mv (.t 11)⟩,
      ⟨(some 13), (some (12, false)), .fa 1 (.t 1)⟩,
      ⟨(some 14), (some (12, false)), .ld none (.t 13)⟩,
      ⟨(some 15), (some (12, false)), .len 0 (.t 14)⟩,
      ⟨(some 16), (some (12, false)), .bin .gtr (.t 15) (.c (.i .i64 4096))⟩,
      ⟨(some 17), none, .pick (.t 12) (.c (.b true)) (.t 16)⟩])
    (.ite (.t 17)
     (.seq
      (.reg [
        ⟨(some 2), none, .mv (.c (.i .i64 2))⟩])
      .ret)
     .skip))
   (.seq
    (.seq
     (.reg [
       ⟨(some 18), none, .fa 0 (.t 1)⟩,
       ⟨(some 19), none, .ld none (.t 18)⟩,
       ⟨(some 20), none, .len 0 (.t 19)⟩,
       ⟨(some 21), none, .mv (.c (.i .i64 0))⟩])
     (.blk 0
      (.loop
       (.seq
        (.reg [
          ⟨(some 22), none, .bin .lss (.t 21) (.t 20)⟩])
        (.seq
         (.ite (.t 22)
          .skip
          (.exit 0))
         (.seq
          (.blk 1
           (.seq
            (.reg [
              ⟨(some 23), none, .ia 3 (.t 19) (.t 21)⟩,
              ⟨(some 24), none, .ld (some 3) (.t 23)⟩,
              ⟨(some 4), none, .alloc [(.i .i64 0), (.i .i64 0), (.i .i64 0)]⟩,
              ⟨none, none, .st 3 (.t 4) (.t 24)⟩])
            (.seq
             (.reg [
               ⟨(some 25), none, .ld (some 3) (.t 4)⟩,
               ⟨(some 26), none, .call ref04_Valid [(.t 25)]⟩,
               ⟨(some 27), none, .un .not (.t 26)⟩])
             (.ite (.t 27)
              (.seq
               (.reg [
                 ⟨(some 2), none, .mv (.c (.i .i64 8))⟩])
               .ret)
              .skip))))
          (.reg [
            ⟨(some 28), none, .bin .add (.t 21) (.c (.i .i64 1))⟩,
            ⟨(some 21), none, .mv (.t 28)⟩])))))))
    (.seq
     (.reg [
       ⟨(some 29), none, .fa 0 (.t 1)⟩,
       ⟨(some 30), none, .ld none (.t 29)⟩,
       ⟨(some 31), none, .len 0 (.t 30)⟩,
       ⟨(some 5), none, .mv (.t 31)⟩])
     (.seq
      (.seq
       (.reg [
         ⟨(some 32), none, .fa 1 (.t 1)⟩,
         ⟨(some 33), none, .ld none (.t 32)⟩,
         ⟨(some 34), none, .len 0 (.t 33)⟩,
         ⟨(some 35), none, .mv (.c (.i .i64 0))⟩])
       (.blk 2
        (.loop
         (.seq
          (.reg [
            ⟨(some 36), none, .bin .lss (.t 35) (.t 34)⟩])
          (.seq
           (.ite (.t 36)
            .skip
            (.exit 2))
           (.seq
            (.blk 3
             (.seq
              (.reg [
                ⟨(some 37), none, .ia 3 (.t 33) (.t 35)⟩,
                ⟨(some 38), none, .ld (some 3) (.t 37)⟩,
                ⟨(some 7), none, .alloc [(.i .i64 0), (.i .i64 0), (.i .i64 0)]⟩,
                ⟨none, none, .st 3 (.t 7) (.t 38)⟩])
              (.seq
               (.reg [
                 ⟨(some 39), none, .fa 0 (.t 7)⟩,
                 ⟨(some 40), none, .ld none (.t 39)⟩,
                 ⟨(some 41), none, .bin .lss (.t 40) (.c (.i .i64 0))⟩,
                 ⟨(some 42), none, .mv (.t 41)⟩,
                 ⟨(some 43), (some (42, false)), .fa 0 (.t 7)⟩,
                 ⟨(some 44), (some (42, false)), .ld none (.t 43)⟩,
                 ⟨(some 45), (some (42, false)), .mv (.t 5)⟩,
                 ⟨(some 46), (some (42, false)), .bin .geq (.t 44) (.t 45)⟩,
                 ⟨(some 47), none, .pick (.t 42) (.c (.b true)) (.t 46)⟩,
                 ⟨(some 48), none, .mv (.t 47)⟩,
                 ⟨(some 49), (some (48, false)), .fa 1 (.t 7)⟩,
                 ⟨(some 50), (some (48, false)), .ld none (.t 49)⟩,
                 ⟨(some 51), (some (48, false)), .bin .lss (.t 50) (.c (.i .i64 0))⟩,
                 ⟨(some 52), none, .pick (.t 48) (.c (.b true)) (.t 51)⟩,
                 ⟨(some 53), none, .mv (.t 52)⟩,
                 ⟨(some 54), (some (53, false)), .fa 1 (.t 7)⟩,
                 ⟨(some 55), (some (53, false)), .ld none (.t 54)⟩,
                 ⟨(some 56), (some (53, false)), .mv (.t 5)⟩,
                 ⟨(some 57), (some (53, false)), .bin .geq (.t 55) (.t 56)⟩,
                 ⟨(some 58), none, .pick (.t 53) (.c (.b true)) (.t 57)⟩,
                 ⟨(some 59), none, .mv (.t 58)⟩,
                 ⟨(some 60), (some (59, false)), .fa 2 (.t 7)⟩,
                 ⟨(some 61), (some (59, false)), .ld none (.t 60)⟩,
                 ⟨(some 62), (some (59, false)), .bin .lss (.t 61) (.c (.i .i64 0))⟩,
                 ⟨(some 63), none, .pick (.t 59) (.c (.b true)) (.t 62)⟩,
                 ⟨(some 64), none, .mv (.t 63)⟩,
                 ⟨(some 65), (some (64, false)), .fa 2 (.t 7)⟩,
                 ⟨(some 66), (some (64, false)), .ld none (.t 65)⟩,
                 ⟨(some 67), (some (64, false)), .mv (.t 5)⟩,
                 ⟨(some 68), (some (64, false)), .bin .geq (.t 66) (.t 67)⟩,
                 ⟨(some 69), none, .pick (.t 64) (.c (.b true)) (.t 68)⟩])
               (.ite (.t 69)
                (.seq
                 (.reg [
                   ⟨(some 2), none, .mv (.c (.i .i64 1))⟩])
                 .ret)
                .skip))))
            (.reg [
              ⟨(some 70), none, .bin .add (.t 35) (.c (.i .i64 1))⟩,
              ⟨(some 35), none, .mv (.t 70)⟩])))))))
      (.seq
       (.reg [
         ⟨(some 2), none, .mv (.c (.i .i64 0))⟩])
       .ret))))))
def ref07_Check.r : List Rr := [.tmp 2]
abbrev ref07_Check.n : Nat := 71
def mesh_Reverse.c (mesh_Check : FuncId) : C :=
 (.seq
  (.reg [
    ⟨(some 1), none, .box (.t 0)⟩,
    ⟨(some 2), none, .alloc [.nil, .nil]⟩])
  (.seq
   (.seq
    (.reg [
      ⟨(some 6), none, .ld (some 2) (.t 1)⟩,
      ⟨(some 7), none, .call mesh_Check [(.t 6)]⟩,
      ⟨(some 8), none, .bin .neq (.t 7) (.c (.i .i64 0))⟩])
    (.ite (.t 8)
     (.seq
      (.reg [
        ⟨(some 9), none, .build [.nil, .nil] []⟩,
        ⟨none, none, .st 2 (.t 2) (.t 9)⟩])
      .ret)
     .skip))
   (.seq
    (.reg [
      ⟨(some 10), none, .bso 3 0 [(.i .i64 0), (.i .i64 0), (.i .i64 0)] []⟩,
      ⟨(some 11), none, .fa 0 (.t 1)⟩,
      ⟨(some 12), none, .ld none (.t 11)⟩,
      ⟨(some 13), none, .app 3 24 (.t 10) (.t 12)⟩,
      ⟨(some 14), none, .build [.nil, .nil] [(0, 1, (.t 13))]⟩,
      ⟨(some 3), none, .alloc [.nil, .nil]⟩,
      ⟨none, none, .st 2 (.t 3) (.t 14)⟩])
    (.seq
     (.seq
      (.reg [
        ⟨(some 15), none, .fa 1 (.t 1)⟩,
        ⟨(some 16), none, .ld none (.t 15)⟩,
        ⟨(some 17), none, .len 0 (.t 16)⟩,
        ⟨(some 18), none, .mv (.c (.i .i64 0))⟩])
      (.blk 0
       (.loop
        (.seq
         (.reg [
           ⟨(some 19), none, .bin .lss (.t 18) (.t 17)⟩])
         (.seq
          (.ite (.t 19)
           .skip
           (.exit 0))
          (.seq
           (.blk 1
            (.seq
             (.reg [
               ⟨(some 20), none, .ia 3 (.t 16) (.t 18)⟩,
               ⟨(some 21), none, .ld (some 3) (.t 20)⟩,
               ⟨(some 5), none, .alloc [(.i .i64 0), (.i .i64 0), (.i .i64 0)]⟩,
               ⟨none, none, .st 3 (.t 5) (.t 21)⟩])
             (.reg [
               ⟨(some 22), none, .fa 1 (.t 3)⟩,
               ⟨(some 23), none, .ld none (.t 22)⟩,
               ⟨(some 24), none, .fa 0 (.t 5)⟩,
               ⟨(some 25), none, .ld none (.t 24)⟩,
               ⟨(some 26), none, .fa 2 (.t 5)⟩,
               ⟨(some 27), none, .ld none (.t 26)⟩,
               ⟨(some 28), none, .fa 1 (.t 5)⟩,
               ⟨(some 29), none, .ld none (.t 28)⟩,
               ⟨(some 30), none, .build [(.i .i64 0), (.i .i64 0), (.i .i64 0)] [(0, 1, (.t 25)), (1, 1, (.t 27)), (2, 1, (.t 29))]⟩,
               ⟨(some 31), none, .bsi 3 1 [(.i .i64 0), (.i .i64 0), (.i .i64 0)] [(0, (.t 30))]⟩,
               ⟨(some 32), none, .app 3 24 (.t 23) (.t 31)⟩,
               ⟨(some 33), none, .fa 1 (.t 3)⟩,
               ⟨none, none, .st 1 (.t 33) (.t 32)⟩])))
           (.reg [
             ⟨(some 34), none, .bin .add (.t 18) (.c (.i .i64 1))⟩,
             ⟨(some 18), none, .mv (.t 34)⟩])))))))
     (.seq
      (.reg [
        ⟨(some 35), none, .ld (some 2) (.t 3)⟩,
        ⟨none, none, .st 2 (.t 2) (.t 35)⟩])
      .ret)))))
def mesh_Reverse.r : List Rr := [.cell 2 (some 2)]
abbrev mesh_Reverse.n : Nat := 36

end Go.Abs

set_option linter.unusedVariables false
set_option linter.unusedSimpArgs false
namespace Go.Abs

structure V3 where
  x : Int
  y : Int
  z : Int
deriving DecidableEq

def V3.cs (v : V3) : List V := [.i .i64 v.x, .i .i64 v.y, .i .i64 v.z]
def V3.enc (v : V3) : V := .a v.cs
def V3.within (v : V3) (k : Int) : Bool := decide (-k ≤ v.x) && decide (v.x ≤ k) && decide (-k ≤ v.y) && decide (v.y ≤ k) && decide (-k ≤ v.z) && decide (v.z ≤ k)
def V3.valid (v : V3) : Bool := v.within 65536

theorem V3.valid_iff {v : V3} : v.valid = true ↔ (-65536 ≤ v.x ∧ v.x ≤ 65536 ∧ -65536 ≤ v.y ∧ v.y ≤ 65536 ∧ -65536 ≤ v.z ∧ v.z ≤ 65536) := by
  simp [V3.valid, V3.within, and_assoc]

def WithinC (P : Program) (f : FuncId) : Prop := ∀ (v : V3) (k : Int), 0 ≤ k → k ≤ 4611686018427387904 → PureC P f [v.enc, .i .i64 k] (· = .b (v.within k))
def ValidC (P : Program) (f : FuncId) : Prop := ∀ v : V3, CallIs P f [v.enc] (.b v.valid)

theorem min_if (a b : Int) : (if b < a then b else a) = min a b := by split <;> omega
theorem max_if (a b : Int) : (if a < b then b else a) = max a b := by split <;> omega

/-- The nearest integer to a / b, ties upward. -/
def rnd (a b : Int) : Int := (2 * a + b) / (2 * b)

theorem rnd_eq (a : Int) {b : Int} (hb : 0 < b) : rnd a b = if b - (a - a / b * b) ≤ a - a / b * b then a / b + 1 else a / b := by
  have h1 := Int.mul_ediv_add_emod a b
  have h2 := Int.emod_nonneg a (show b ≠ 0 by omega)
  have h3 := Int.emod_lt_of_pos a hb
  have h4 : a - a / b * b = a % b := by rw [Int.mul_comm]; omega
  rw [h4]
  have h5 : 2 * b * (a / b) = 2 * (b * (a / b)) := Int.mul_assoc 2 b (a / b)
  have h6 : 2 * b * (a / b + 1) = 2 * (b * (a / b)) + 2 * b := by rw [Int.mul_add, h5, Int.mul_one]
  unfold rnd
  split
  · refine ((Int.ediv_emod_unique (show 0 < 2 * b by omega) (a := 2 * a + b) (q := a / b + 1) (r := 2 * (a % b) - b)).2 ⟨?_, by omega, by omega⟩).1
    omega
  · refine ((Int.ediv_emod_unique (show 0 < 2 * b by omega) (a := 2 * a + b) (q := a / b) (r := 2 * (a % b) + b)).2 ⟨?_, by omega, by omega⟩).1
    omega

section
variable {P : Program} (hm : P.follows .mixedOrders = true)
include hm

theorem vec_within_ok {f : FuncId} (hf : FnOk P f vec_within.c vec_within.r vec_within.n) : WithinC P f := by
  intro v k h0 h1
  refine pure_of hm hf (Nat.le_of_ble_eq_true rfl) ?_
  unfold vec_within.c
  simp +contextual -implicitDefEqProofs [go_sem, V3.enc, V3.cs, vec_within.r]
  have h : IntKind.i64.wrap (-k) = -k := wrap64_small (by omega) (by omega)
  simp [h, V3.within, and_assoc]

theorem ref04_within_ok {f : FuncId} (hf : FnOk P f ref04_within.c ref04_within.r ref04_within.n) : WithinC P f := by
  intro v k h0 h1
  refine pure_of hm hf (Nat.le_of_ble_eq_true rfl) ?_
  unfold ref04_within.c
  simp +contextual -implicitDefEqProofs [go_sem, V3.enc, V3.cs, ref04_within.r]
  have h : IntKind.i64.wrap (-k) = -k := wrap64_small (by omega) (by omega)
  simp [h, V3.within, and_assoc]

theorem vec_Valid_ok {f fw : FuncId} (hf : FnOk P f (vec_Valid.c fw) vec_Valid.r vec_Valid.n) (hw : WithinC P fw) : ValidC P f := by
  intro v
  refine PureC.is (pure_of hm hf (Nat.le_of_ble_eq_true rfl) ?_) rfl
  unfold vec_Valid.c
  simp [go_sem, V3.enc, V3.cs]
  refine ACall_is ((hw v 65536 (by omega) (by omega)).is rfl) ?_
  simp [go_sem, vec_Valid.r, V3.valid]

theorem ref04_Valid_ok {f fw : FuncId} (hf : FnOk P f (ref04_Valid.c fw) ref04_Valid.r ref04_Valid.n) (hw : WithinC P fw) : ValidC P f := by
  intro v
  refine PureC.is (pure_of hm hf (Nat.le_of_ble_eq_true rfl) ?_) rfl
  unfold ref04_Valid.c
  simp [go_sem, V3.enc, V3.cs]
  refine ACall_is ((hw v 65536 (by omega) (by omega)).is rfl) ?_
  simp [go_sem, ref04_Valid.r, V3.valid]

def FloorC (P : Program) (f : FuncId) : Prop := ∀ a b : Int, -9007199254740992 ≤ a → a ≤ 9007199254740992 → 0 < b → b ≤ 9007199254740992 → CallIs P f [.i .i64 a, .i .i64 b] (.t [.i .i64 (a / b), .i .i64 0])
def RoundC (P : Program) (f : FuncId) : Prop := ∀ a b : Int, -9007199254740992 ≤ a → a ≤ 9007199254740992 → 0 < b → b ≤ 9007199254740992 → CallIs P f [.i .i64 a, .i .i64 b] (.t [.i .i64 (rnd a b), .i .i64 0])

theorem num_Floor_ok {f : FuncId} (hf : FnOk P f num_Floor.c num_Floor.r num_Floor.n) : FloorC P f := by
  intro a b h1 h2 h3 h4
  refine PureC.is (pure_of hm hf (Nat.le_of_ble_eq_true rfl) ?_) rfl
  unfold num_Floor.c
  have e0 : ¬ a = -9223372036854775808 := by omega
  have e1 : ¬ b = 0 := by omega
  have e2 : ¬ b = -1 := by omega
  have e3 : ¬ b < 0 := by omega
  have hq1 : -9007199254740992 ≤ a.tdiv b := by
    have := Int.natAbs_tdiv_le_natAbs a b
    omega
  have hq2 : a.tdiv b ≤ 9007199254740992 := by
    have := Int.natAbs_tdiv_le_natAbs a b
    omega
  have hdm := Int.mul_tdiv_add_tmod a b
  have hm1 := Int.tmod_lt_of_pos a h3
  simp +contextual -implicitDefEqProofs [go_sem, e0, e1, e2, e3, num_Floor.r, wrap64_small (show -9223372036854775808 ≤ a.tdiv b by omega) (show a.tdiv b ≤ 9223372036854775807 by omega)]
  have hlo : -b < a.tmod b := by
    have h8 : (a.tmod b).natAbs = a.natAbs % b.natAbs := Int.natAbs_tmod a b
    have := Nat.mod_lt a.natAbs (show 0 < b.natAbs by omega)
    omega
  by_cases hr : a.tmod b = 0
  · simp [go_sem, hr]
    rw [hr] at hdm
    rw [← hdm, Int.add_zero, Int.mul_tdiv_cancel_left _ e1, Int.mul_ediv_cancel_left _ e1]
  · by_cases hn : a < 0
    · simp [go_sem, hr, hn]
      have hr' : (a.tmod b != 0) = true := by simpa using hr
      rw [wrap64_small (by omega) (by omega)]
      have hneg : a.tmod b ≤ 0 := by
        have := Int.tmod_nonneg (a := -a) b (by omega)
        rw [Int.neg_tmod] at this
        omega
      refine ⟨?_, fun hh => by omega⟩
      refine ((Int.ediv_emod_unique h3 (a := a) (q := a.tdiv b - 1) (r := b + a.tmod b)).2 ⟨?_, by omega, by omega⟩).1.symm
      rw [Int.mul_sub]
      omega
    · have hr' : (a.tmod b != 0) = true := by simpa using hr
      simp [go_sem, hr, hn, hr']
      exact fun _ => Int.tdiv_eq_ediv_of_nonneg (by omega)

theorem num_Round_ok {f ff : FuncId} (hf : FnOk P f (num_Round.c ff) num_Round.r num_Round.n) (hfl : FloorC P ff) : RoundC P f := by
  intro a b h1 h2 h3 h4
  refine PureC.is (pure_of hm hf (Nat.le_of_ble_eq_true rfl) ?_) rfl
  unfold num_Round.c
  have h5 := Int.mul_ediv_add_emod a b
  have h6 := Int.emod_nonneg a (show b ≠ 0 by omega)
  have h7 := Int.emod_lt_of_pos a h3
  have h8 : a / b * b = b * (a / b) := Int.mul_comm _ _
  have h9 : -9007199254740992 ≤ a / b := by
    refine Int.le_ediv_of_mul_le h3 ?_
    have := Int.mul_le_mul_of_nonneg_left (show (1 : Int) ≤ b by omega) (show (0 : Int) ≤ 9007199254740992 by omega)
    omega
  have h10 : a / b ≤ 9007199254740992 := by
    refine Int.ediv_le_of_le_mul h3 ?_
    have := Int.mul_le_mul_of_nonneg_left (show (1 : Int) ≤ b by omega) (show (0 : Int) ≤ 9007199254740992 by omega)
    omega
  simp [go_sem]
  refine ACall_is (hfl a b h1 h2 h3 h4) ?_
  rw [rnd_eq a h3]
  by_cases hc : b - (a - a / b * b) ≤ a - a / b * b
  all_goals
    simp [go_sem, num_Round.r, h3, hc, wrap64_small (show -9223372036854775808 ≤ a / b * b by omega) (show a / b * b ≤ 9223372036854775807 by omega),
      wrap64_small (show -9223372036854775808 ≤ a - a / b * b by omega) (show a - a / b * b ≤ 9223372036854775807 by omega), wrap64_small (show -9223372036854775808 ≤ b - (a - a / b * b) by omega) (show b - (a - a / b * b) ≤ 9223372036854775807 by omega),
      show ¬ b < 0 by omega, wrap64_small (show -9223372036854775808 ≤ a / b + 1 by omega) (show a / b + 1 ≤ 9223372036854775807 by omega)]
end
end Go.Abs

set_option linter.unusedVariables false
set_option linter.unusedSimpArgs false
namespace Go.Abs

structure T3 where
  a : Int
  b : Int
  c : Int
deriving DecidableEq

def T3.cs (t : T3) : List V := [.i .i64 t.a, .i .i64 t.b, .i .i64 t.c]
def T3.enc (t : T3) : V := .a t.cs
def T3.ok (n : Nat) (t : T3) : Bool := decide (0 ≤ t.a) && decide (t.a < n) && decide (0 ≤ t.b) && decide (t.b < n) && decide (0 ≤ t.c) && decide (t.c < n)
theorem T3.ok_iff {n : Nat} {t : T3} : t.ok n = true ↔ (0 ≤ t.a ∧ t.a < n ∧ 0 ≤ t.b ∧ t.b < n ∧ 0 ≤ t.c ∧ t.c < n) := by simp [T3.ok, and_assoc]
theorem T3.ok_false {n : Nat} {t : T3} : t.ok n = false ↔ ¬ (0 ≤ t.a ∧ t.a < n ∧ 0 ≤ t.b ∧ t.b < n ∧ 0 ≤ t.c ∧ t.c < n) := by rw [← T3.ok_iff]; simp

structure Mesh where
  verts : List V3
  tris : List T3
deriving DecidableEq

def vsV (l : List V3) : V := .l 3 (l.map V3.cs)
def tsV (l : List T3) : V := .l 3 (l.map T3.cs)
def Mesh.cs (m : Mesh) : List V := [vsV m.verts, tsV m.tris]
def Mesh.enc (m : Mesh) : V := .a m.cs

def vsOk (l : List V3) : Bool := l.all V3.valid
def tsOk (n : Nat) (l : List T3) : Bool := l.all (T3.ok n)

def Mesh.check (m : Mesh) : Int :=
  if 4096 < m.verts.length ∨ 4096 < m.tris.length then 2
  else if vsOk m.verts = false then 8
  else if tsOk m.verts.length m.tris = false then 1 else 0

def CheckC (P : Program) (f : FuncId) : Prop := ∀ m : Mesh, CallIs P f [m.enc] (.i .i64 m.check)

theorem all_take_succ {α : Type} {p : α → Bool} {l : List α} {k : Nat} {x : α} (h : l[k]? = some x) : (l.take (k + 1)).all p = ((l.take k).all p && p x) := by
  simp [List.take_add_one, h]
theorem all_false_of {α : Type} {p : α → Bool} {l : List α} {k : Nat} {x : α} (h : l[k]? = some x) (hx : p x = false) : l.all p = false := by
  rw [Bool.eq_false_iff]
  intro h1
  have := List.all_eq_true.1 h1 x (List.mem_of_getElem? h)
  rw [hx] at this; cases this

theorem vsOk_succ {l : List V3} {k : Nat} {x : V3} (h : l[k]? = some x) : vsOk (l.take (k + 1)) = (vsOk (l.take k) && x.valid) := all_take_succ h
theorem tsOk_succ {n : Nat} {l : List T3} {k : Nat} {x : T3} (h : l[k]? = some x) : tsOk n (l.take (k + 1)) = (tsOk n (l.take k) && x.ok n) := all_take_succ h
theorem vsOk_false {l : List V3} {k : Nat} {x : V3} (h : l[k]? = some x) (hx : x.valid = false) : vsOk l = false := all_false_of h hx
theorem tsOk_false {n : Nat} {l : List T3} {k : Nat} {x : T3} (h : l[k]? = some x) (hx : x.ok n = false) : tsOk n l = false := all_false_of (p := T3.ok n) h hx
theorem vsOk_get {l : List V3} {k : Nat} {x : V3} (ho : vsOk l = true) (h : l[k]? = some x) : x.valid = true := List.all_eq_true.1 ho x (List.mem_of_getElem? h)
theorem tsOk_get {n : Nat} {l : List T3} {k : Nat} {x : T3} (ho : tsOk n l = true) (h : l[k]? = some x) : x.ok n = true := List.all_eq_true.1 ho x (List.mem_of_getElem? h)

theorem Mesh.check_zero {m : Mesh} : m.check = 0 ↔ m.verts.length ≤ 4096 ∧ m.tris.length ≤ 4096 ∧ vsOk m.verts = true ∧ tsOk m.verts.length m.tris = true := by
  unfold Mesh.check
  split
  · simp; omega
  · rename_i h
    simp only [not_or, Nat.not_lt] at h
    cases vsOk m.verts <;> cases tsOk m.verts.length m.tris <;> simp [h]

theorem vcs (v : V3) : v.cs = [.i .i64 v.x, .i .i64 v.y, .i .i64 v.z] := _root_.id rfl
theorem tcs (v : T3) : v.cs = [.i .i64 v.a, .i .i64 v.b, .i .i64 v.c] := _root_.id rfl
theorem venc (v : V3) : V.a [.i .i64 v.x, .i .i64 v.y, .i .i64 v.z] = v.enc := _root_.id rfl

section
variable {P : Program} (hm : P.follows .mixedOrders = true)
include hm

theorem mesh_Check_ok {f fv : FuncId} (hf : FnOk P f (mesh_Check.c fv) mesh_Check.r mesh_Check.n) (hv : ValidC P fv) : CheckC P f := by
  intro m
  refine PureC.is (pure_of hm hf (Nat.le_of_ble_eq_true rfl) ?_) rfl
  unfold mesh_Check.c
  by_cases h1 : 4096 < m.verts.length ∨ 4096 < m.tris.length
  · have h2 : m.check = 2 := by simp [Mesh.check, h1]
    simp +contextual -implicitDefEqProofs [go_sem, Mesh.enc, Mesh.cs, vsV, tsV, h2, mesh_Check.r]
    omega
  simp only [not_or, Nat.not_lt] at h1
  simp +contextual -implicitDefEqProofs [go_sem, Mesh.enc, Mesh.cs, vsV, tsV, h1, show ¬ (4096 : Int) < m.verts.length by omega, show ¬ (4096 : Int) < m.tris.length by omega]
  refine AS_loop (α := Nat) (fun k => k ≤ m.verts.length ∧ vsOk (m.verts.take k) = true)
    (fun k => ⟨[(1, .p 0 1 0 0), (3, .i .i64 m.verts.length), (20, vsV m.verts), (21, .i .i64 m.verts.length), (22, .i .i64 k)], [.arr 1 2 [m.cs]]⟩)
    (fun k => m.verts.length - k) 0 ⟨Nat.zero_le _, rfl⟩ ?_ ?_
  · simp [go_sem, Mesh.cs, vsV, tsV]
  · rintro k ⟨hk, hok⟩
    cases hp : m.verts[k]? with
    | none =>
      have : ¬ k < m.verts.length := by simpa using hp
      obtain rfl : k = m.verts.length := by omega
      rw [List.take_length] at hok
      simp [go_sem, vsV, tsV, Mesh.cs]
      refine AS_loop (α := Nat) (fun k => k ≤ m.tris.length ∧ tsOk m.verts.length (m.tris.take k) = true)
        (fun k => ⟨[(3, .i .i64 m.verts.length), (31, tsV m.tris), (32, .i .i64 m.tris.length), (33, .i .i64 k)], [.dead]⟩)
        (fun k => m.tris.length - k) 0 ⟨Nat.zero_le _, rfl⟩ ?_ ?_
      · simp [go_sem, tsV]
      · rintro k ⟨hk, hok2⟩
        cases hp : m.tris[k]? with
        | none =>
          have : ¬ k < m.tris.length := by simpa using hp
          obtain rfl : k = m.tris.length := by omega
          rw [List.take_length] at hok2
          simp [go_sem, tsV, mesh_Check.r]
          exact (Mesh.check_zero.2 ⟨h1.1, h1.2, hok, hok2⟩).symm
        | some t =>
          obtain ⟨hlt, hp'⟩ := List.getElem?_eq_some_iff.1 hp
          by_cases ht : t.ok m.verts.length = true
          · have ht' := T3.ok_iff.1 ht
            simp +contextual -implicitDefEqProofs [go_sem, tsV, tcs, hlt, hp', min_if, max_if]
            refine ⟨fun h => by omega, fun h1 h2 => ?_⟩
            simp (disch := omega) [go_sem, wrap64_small]
            refine ⟨k + 1, ⟨by omega, ?_⟩, by omega, ?_⟩
            · rw [tsOk_succ hp, hok2, ht]; rfl
            · simp [go_sem, tsV]
          · have ht1 : t.ok m.verts.length = false := by simpa using ht
            have ht' := T3.ok_false.1 ht1
            simp +contextual -implicitDefEqProofs [go_sem, tsV, tcs, hlt, hp', min_if, max_if]
            refine ⟨fun h => ?_, fun h1 h2 => by omega⟩
            simp [go_sem, mesh_Check.r]
            simp [Mesh.check, tsOk_false hp ht1, Nat.not_lt.2 h1.1, Nat.not_lt.2 h1.2, hok]
    | some p =>
      obtain ⟨hlt, hp'⟩ := List.getElem?_eq_some_iff.1 hp
      simp [go_sem, vsV, tsV, Mesh.cs, hlt, hp', vcs]
      refine ACall_is (hv p) ?_
      cases hvp : p.valid
      · simp [go_sem, mesh_Check.r]
        simp [Mesh.check, vsOk_false hp hvp, Nat.not_lt.2 h1.1, Nat.not_lt.2 h1.2]
      · simp [go_sem]
        simp (disch := omega) [go_sem, wrap64_small]
        refine ⟨k + 1, ⟨by omega, ?_⟩, by omega, ?_⟩
        · rw [vsOk_succ hp, hok, hvp]; rfl
        · simp [go_sem, vsV]
theorem ref07_Check_ok {f fv : FuncId} (hf : FnOk P f (ref07_Check.c fv) ref07_Check.r ref07_Check.n) (hv : ValidC P fv) : CheckC P f := by
  intro m
  refine PureC.is (pure_of hm hf (Nat.le_of_ble_eq_true rfl) ?_) rfl
  unfold ref07_Check.c
  by_cases h1 : 4096 < m.verts.length ∨ 4096 < m.tris.length
  · have h2 : m.check = 2 := by simp [Mesh.check, h1]
    simp +contextual -implicitDefEqProofs [go_sem, Mesh.enc, Mesh.cs, vsV, tsV, h2, ref07_Check.r]
    omega
  simp only [not_or, Nat.not_lt] at h1
  simp +contextual -implicitDefEqProofs [go_sem, Mesh.enc, Mesh.cs, vsV, tsV, h1, show ¬ (4096 : Int) < m.verts.length by omega, show ¬ (4096 : Int) < m.tris.length by omega]
  refine AS_loop (α := Nat) (fun k => k ≤ m.verts.length ∧ vsOk (m.verts.take k) = true)
    (fun k => ⟨[(1, .p 0 1 0 0), (19, vsV m.verts), (20, .i .i64 m.verts.length), (21, .i .i64 k)], [.arr 1 2 [m.cs]]⟩)
    (fun k => m.verts.length - k) 0 ⟨Nat.zero_le _, rfl⟩ ?_ ?_
  · simp [go_sem, Mesh.cs, vsV, tsV]
  · rintro k ⟨hk, hok⟩
    cases hp : m.verts[k]? with
    | none =>
      have : ¬ k < m.verts.length := by simpa using hp
      obtain rfl : k = m.verts.length := by omega
      rw [List.take_length] at hok
      simp [go_sem, vsV, tsV, Mesh.cs]
      refine AS_loop (α := Nat) (fun k => k ≤ m.tris.length ∧ tsOk m.verts.length (m.tris.take k) = true)
        (fun k => ⟨[(5, .i .i64 m.verts.length), (33, tsV m.tris), (34, .i .i64 m.tris.length), (35, .i .i64 k)], [.dead]⟩)
        (fun k => m.tris.length - k) 0 ⟨Nat.zero_le _, rfl⟩ ?_ ?_
      · simp [go_sem, tsV]
      · rintro k ⟨hk, hok2⟩
        cases hp : m.tris[k]? with
        | none =>
          have : ¬ k < m.tris.length := by simpa using hp
          obtain rfl : k = m.tris.length := by omega
          rw [List.take_length] at hok2
          simp [go_sem, tsV, ref07_Check.r]
          exact (Mesh.check_zero.2 ⟨h1.1, h1.2, hok, hok2⟩).symm
        | some t =>
          obtain ⟨hlt, hp'⟩ := List.getElem?_eq_some_iff.1 hp
          by_cases ht : t.ok m.verts.length = true
          · have ht' := T3.ok_iff.1 ht
            simp +contextual -implicitDefEqProofs [go_sem, tsV, tcs, hlt, hp', min_if, max_if]
            refine ⟨fun h => by omega, fun h1 h2 _ _ _ _ => ?_⟩
            simp (disch := omega) [go_sem, wrap64_small]
            refine ⟨k + 1, ⟨by omega, ?_⟩, by omega, ?_⟩
            · rw [tsOk_succ hp, hok2, ht]; rfl
            · simp [go_sem, tsV]
          · have ht1 : t.ok m.verts.length = false := by simpa using ht
            have ht' := T3.ok_false.1 ht1
            simp +contextual -implicitDefEqProofs [go_sem, tsV, tcs, hlt, hp', min_if, max_if]
            refine ⟨fun h => ?_, fun h1 h2 _ _ _ _ => by omega⟩
            simp [go_sem, ref07_Check.r]
            simp [Mesh.check, tsOk_false hp ht1, Nat.not_lt.2 h1.1, Nat.not_lt.2 h1.2, hok]
    | some p =>
      obtain ⟨hlt, hp'⟩ := List.getElem?_eq_some_iff.1 hp
      simp [go_sem, vsV, tsV, Mesh.cs, hlt, hp', vcs]
      refine ACall_is (hv p) ?_
      cases hvp : p.valid
      · simp [go_sem, ref07_Check.r]
        simp [Mesh.check, vsOk_false hp hvp, Nat.not_lt.2 h1.1, Nat.not_lt.2 h1.2]
      · simp [go_sem]
        simp (disch := omega) [go_sem, wrap64_small]
        refine ⟨k + 1, ⟨by omega, ?_⟩, by omega, ?_⟩
        · rw [vsOk_succ hp, hok, hvp]; rfl
        · simp [go_sem, vsV]
end
end Go.Abs

