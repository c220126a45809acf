/- The code of functions of the program, the functions that they call left open. -/
import Derived.Test.YtedcbjgnidjidaaAbsZF
set_option linter.unusedVariables false
set_option linter.unusedSimpArgs false
namespace Go.Abs

def journal_All.c (flash_Valid journal_Decode slices_SortFunc_api_Record_api_Record journal_All_1 : FuncId) : C :=
 (.seq
  (.reg [
    ⟨(some 1), none, .box (.t 0)⟩,
    ⟨(some 2), none, .mv (.c .nil)⟩])
  (.seq
   (.seq
    (.reg [
      ⟨(some 8), none, .ld (some 4) (.t 1)⟩,
      ⟨(some 9), none, .call flash_Valid [(.t 8)]⟩,
      ⟨(some 10), none, .un .not (.t 9)⟩,
      ⟨(some 11), none, .mv (.t 10)⟩,
      ⟨(some 12), (some (11, false)), .fa 2 (.t 1)⟩,
      ⟨(some 13), (some (11, false)), .ld none (.t 12)⟩,
      ⟨(some 14), none, .pick (.t 11) (.c (.b true)) (.t 13)⟩])
    (.ite (.t 14)
     (.seq
      (.reg [
        ⟨(some 2), none, .mv (.c .nil)⟩])
      .ret)
     .skip))
   (.seq
    (.reg [
      ⟨(some 3), none, .mv (.c .nil)⟩])
    (.seq
     (.seq
      (.reg [
        ⟨(some 15), none, .fa 0 (.t 1)⟩,
        ⟨(some 16), none, .ld none (.t 15)⟩,
        ⟨(some 17), none, .len 0 (.t 16)⟩,
        ⟨(some 18), none, .mv (.c (.i .i64 0))⟩])
      (.blk 0
       (.loop
        (.seq
         (.reg [
           ⟨(some 19), none, .bin .lss (.t 18) (.t 17)⟩])
         (.seq
          (.ite (.t 19)
           .skip
           (.exit 0))
          (.seq
           (.blk 1
            (.seq
             (.reg [
               ⟨(some 20), none, .mv (.t 18)⟩,
               ⟨(some 21), none, .ia 1 (.t 16) (.t 18)⟩,
               ⟨(some 22), none, .ld none (.t 21)⟩,
               ⟨(some 4), none, .mv (.t 20)⟩,
               ⟨(some 5), none, .mv (.t 22)⟩])
             (.seq
              (.reg [
                ⟨(some 24), none, .mv (.t 5)⟩,
                ⟨(some 25), none, .call journal_Decode [(.t 24)]⟩,
                ⟨(some 23), none, .mv (.t 25)⟩,
                ⟨(some 26), none, .ext (.t 23) 0⟩,
                ⟨(some 27), none, .ext (.t 23) 1⟩,
                ⟨(some 6), none, .alloc [(.i .i64 0), (.i .i64 0), (.i .i64 0), (.i .i64 0), (.i .i64 0), (.i .i64 0), (.i .i64 0), (.i .i64 0), (.i .i64 0), (.i .i64 0), (.i .i64 0), (.i .i64 0)]⟩,
                ⟨none, none, .st 12 (.t 6) (.t 26)⟩,
                ⟨(some 7), none, .mv (.t 27)⟩])
              (.seq
               (.reg [
                 ⟨(some 28), none, .mv (.t 7)⟩,
                 ⟨(some 29), none, .bin .eql (.t 28) (.c (.i .i64 0))⟩,
                 ⟨(some 30), none, .mv (.t 29)⟩,
                 ⟨(some 31), (some (30, true)), .fa 1 (.t 6)⟩,
                 ⟨(some 32), (some (30, true)), .ld none (.t 31)⟩,
                 ⟨(some 33), (some (30, true)), .fa 0 (.t 1)⟩,
                 ⟨(some 34), (some (30, true)), .ld none (.t 33)⟩,
                 ⟨(some 35), (some (30, true)), .len 0 (.t 34)⟩,
                 ⟨(some 36), (some (30, true)), .bin .rem (.t 32) (.t 35)⟩,
                 ⟨(some 37), (some (30, true)), .mv (.t 4)⟩,
                 ⟨(some 38), (some (30, true)), .bin .eql (.t 36) (.t 37)⟩,
                 ⟨(some 39), none, .pick (.t 30) (.t 38) (.c (.b false))⟩])
               (.ite (.t 39)
                (.reg [
                  ⟨(some 40), none, .mv (.t 3)⟩,
                  ⟨(some 41), none, .ld (some 12) (.t 6)⟩,
                  ⟨(some 42), none, .bsi 12 1 [(.i .i64 0), (.i .i64 0), (.i .i64 0), (.i .i64 0), (.i .i64 0), (.i .i64 0), (.i .i64 0), (.i .i64 0), (.i .i64 0), (.i .i64 0), (.i .i64 0), (.i .i64 0)] [(0, (.t 41))]⟩,
                  ⟨(some 43), none, .app 12 96 (.t 40) (.t 42)⟩,
                  ⟨(some 3), none, .mv (.t 43)⟩])
                .skip)))))
           (.reg [
             ⟨(some 44), none, .bin .add (.t 18) (.c (.i .i64 1))⟩,
             ⟨(some 18), none, .mv (.t 44)⟩])))))))
     (.seq
      (.reg [
        ⟨(some 45), none, .mv (.t 3)⟩,
        ⟨(some 46), none, .call slices_SortFunc_api_Record_api_Record [(.t 45), (.c (.f journal_All_1 []))]⟩])
      (.seq
       (.reg [
         ⟨(some 47), none, .mv (.t 3)⟩,
         ⟨(some 2), none, .mv (.t 47)⟩])
       .ret))))))
def journal_All.r : List Rr := [.tmp 2]
abbrev journal_All.n : Nat := 48
def journal_All_1.c (cmp_Compare_int : FuncId) : C :=
 (.seq
  (.reg [
    ⟨(some 2), none, .box (.t 0)⟩,
    ⟨(some 3), none, .box (.t 1)⟩,
    ⟨(some 4), none, .mv (.c (.i .i64 0))⟩])
  (.seq
   (.reg [
     ⟨(some 5), none, .fa 1 (.t 2)⟩,
     ⟨(some 6), none, .ld none (.t 5)⟩,
     ⟨(some 7), none, .fa 1 (.t 3)⟩,
     ⟨(some 8), none, .ld none (.t 7)⟩,
     ⟨(some 9), none, .call cmp_Compare_int [(.t 6), (.t 8)]⟩,
     ⟨(some 4), none, .mv (.t 9)⟩])
   .ret))
def journal_All_1.r : List Rr := [.tmp 4]
abbrev journal_All_1.n : Nat := 10
def journal_Last.c (journal_All : FuncId) : C :=
 (.seq
  (.reg [
    ⟨(some 1), none, .box (.t 0)⟩,
    ⟨(some 2), none, .alloc [(.i .i64 0), (.i .i64 0), (.i .i64 0), (.i .i64 0), (.i .i64 0), (.i .i64 0), (.i .i64 0), (.i .i64 0), (.i .i64 0), (.i .i64 0), (.i .i64 0), (.i .i64 0)]⟩,
    ⟨(some 3), none, .mv (.c (.b false))⟩])
  (.seq
   (.reg [
     ⟨(some 5), none, .ld (some 4) (.t 1)⟩,
     ⟨(some 6), none, .call journal_All [(.t 5)]⟩,
     ⟨(some 4), none, .mv (.t 6)⟩])
   (.seq
    (.seq
     (.reg [
       ⟨(some 7), none, .mv (.t 4)⟩,
       ⟨(some 8), none, .len 0 (.t 7)⟩,
       ⟨(some 9), none, .bin .eql (.t 8) (.c (.i .i64 0))⟩])
     (.ite (.t 9)
      (.seq
       (.reg [
         ⟨(some 10), none, .build [(.i .i64 0), (.i .i64 0), (.i .i64 0), (.i .i64 0), (.i .i64 0), (.i .i64 0), (.i .i64 0), (.i .i64 0), (.i .i64 0), (.i .i64 0), (.i .i64 0), (.i .i64 0)] []⟩,
         ⟨none, none, .st 12 (.t 2) (.t 10)⟩,
         ⟨(some 3), none, .mv (.c (.b false))⟩])
       .ret)
      .skip))
    (.seq
     (.reg [
       ⟨(some 11), none, .mv (.t 4)⟩,
       ⟨(some 12), none, .mv (.t 4)⟩,
       ⟨(some 13), none, .len 0 (.t 12)⟩,
       ⟨(some 14), none, .bin .sub (.t 13) (.c (.i .i64 1))⟩,
       ⟨(some 15), none, .ia 12 (.t 11) (.t 14)⟩,
       ⟨(some 16), none, .ld (some 12) (.t 15)⟩,
       ⟨none, none, .st 12 (.t 2) (.t 16)⟩,
       ⟨(some 3), none, .mv (.c (.b true))⟩])
     .ret))))
def journal_Last.r : List Rr := [.cell 2 (some 12), .tmp 3]
abbrev journal_Last.n : Nat := 17
def journal_Append.c (journal_Encode journal_Last flash_Valid flash_Write : FuncId) : C :=
 (.seq
  (.reg [
    ⟨(some 2), none, .box (.t 0)⟩,
    ⟨(some 3), none, .box (.t 1)⟩,
    ⟨(some 4), none, .alloc [.nil, (.i .i64 0), (.b false), (.i .i64 0)]⟩,
    ⟨(some 5), none, .mv (.c (.i .i64 0))⟩])
  (.seq
   (.reg [
     ⟨(some 11), none, .ld (some 12) (.t 3)⟩,
     ⟨(some 12), none, .call journal_Encode [(.t 11)]⟩,
     ⟨(some 10), none, .mv (.t 12)⟩,
     ⟨(some 13), none, .ext (.t 10) 0⟩,
     ⟨(some 14), none, .ext (.t 10) 1⟩,
     ⟨(some 6), none, .mv (.t 13)⟩,
     ⟨(some 7), none, .mv (.t 14)⟩])
   (.seq
    (.reg [
      ⟨(some 16), none, .ld (some 4) (.t 2)⟩,
      ⟨(some 17), none, .call journal_Last [(.t 16)]⟩,
      ⟨(some 15), none, .mv (.t 17)⟩,
      ⟨(some 18), none, .ext (.t 15) 0⟩,
      ⟨(some 19), none, .ext (.t 15) 1⟩,
      ⟨(some 8), none, .alloc [(.i .i64 0), (.i .i64 0), (.i .i64 0), (.i .i64 0), (.i .i64 0), (.i .i64 0), (.i .i64 0), (.i .i64 0), (.i .i64 0), (.i .i64 0), (.i .i64 0), (.i .i64 0)]⟩,
      ⟨none, none, .st 12 (.t 8) (.t 18)⟩,
      ⟨(some 9), none, .mv (.t 19)⟩])
    (.seq
     (.blk 0
      (.seq
       (.reg [
         ⟨(some 21), none, .mv (.t 7)⟩,
         ⟨(some 22), none, .bin .neq (.t 21) (.c (.i .i64 0))⟩,
         ⟨(some 23), none, .mv (.t 22)⟩,
         ⟨(some 24), (some (23, false)), .ld (some 4) (.t 2)⟩,
         ⟨(some 25), (some (23, false)), .call flash_Valid [(.t 24)]⟩,
         ⟨(some 26), (some (23, false)), .un .not (.t 25)⟩,
         ⟨(some 27), none, .pick (.t 23) (.c (.b true)) (.t 26)⟩,
         ⟨(some 20), none, .mv (.t 27)⟩])
       (.ite (.t 20)
        (.seq
         (.reg [
           ⟨(some 28), none, .ld (some 4) (.t 2)⟩,
           ⟨none, none, .st 4 (.t 4) (.t 28)⟩,
           ⟨(some 5), none, .mv (.c (.i .i64 1))⟩])
         .ret)
        (.seq
         (.reg [
           ⟨(some 30), none, .fa 2 (.t 2)⟩,
           ⟨(some 31), none, .ld none (.t 30)⟩,
           ⟨(some 29), none, .mv (.t 31)⟩])
         (.ite (.t 29)
          (.seq
           (.reg [
             ⟨(some 32), none, .ld (some 4) (.t 2)⟩,
             ⟨none, none, .st 4 (.t 4) (.t 32)⟩,
             ⟨(some 5), none, .mv (.c (.i .i64 17))⟩])
           .ret)
          (.seq
           (.reg [
             ⟨(some 34), none, .fa 1 (.t 3)⟩,
             ⟨(some 35), none, .ld none (.t 34)⟩,
             ⟨(some 36), none, .fa 1 (.t 8)⟩,
             ⟨(some 37), none, .ld none (.t 36)⟩,
             ⟨(some 38), none, .bin .add (.t 37) (.c (.i .i64 1))⟩,
             ⟨(some 39), none, .bin .neq (.t 35) (.t 38)⟩,
             ⟨(some 33), none, .mv (.t 39)⟩])
           (.ite (.t 33)
            (.seq
             (.reg [
               ⟨(some 40), none, .ld (some 4) (.t 2)⟩,
               ⟨none, none, .st 4 (.t 4) (.t 40)⟩,
               ⟨(some 5), none, .mv (.c (.i .i64 11))⟩])
             .ret)
            .skip)))))))
     (.seq
      (.drw [
        ⟨(some 41), none, .ld (some 4) (.t 2)⟩,
        ⟨(some 42), none, .fa 1 (.t 3)⟩,
        ⟨(some 43), none, .ld none (.t 42)⟩,
        ⟨(some 44), none, .fa 0 (.t 2)⟩,
        ⟨(some 45), none, .ld none (.t 44)⟩,
        ⟨(some 46), none, .len 0 (.t 45)⟩,
        ⟨(some 47), none, .bin .rem (.t 43) (.t 46)⟩,
        ⟨(some 48), none, .mv (.t 6)⟩,
        ⟨(some 49), none, .call flash_Write [(.t 41), (.t 47), (.t 48)]⟩,
        ⟨(some 50), none, .ext (.t 49) 0⟩,
        ⟨(some 51), none, .ext (.t 49) 1⟩,
        ⟨none, none, .st 4 (.t 4) (.t 50)⟩,
        ⟨(some 5), none, .mv (.t 51)⟩] [])
      .ret)))))
def journal_Append.r : List Rr := [.cell 4 (some 4), .tmp 5]
abbrev journal_Append.n : Nat := 52
def ref52_All.c (ref51_Valid ref52_Decode : FuncId) : C :=
 (.seq
  (.reg [
    ⟨(some 1), none, .box (.t 0)⟩,
    ⟨(some 2), none, .mv (.c .nil)⟩])
  (.seq
   (.reg [
     ⟨(some 3), none, .mv (.c .nil)⟩])
   (.seq
    (.seq
     (.reg [
       ⟨(some 9), none, .ld (some 4) (.t 1)⟩,
       ⟨(some 10), none, .call ref51_Valid [(.t 9)]⟩,
       ⟨(some 11), none, .un .not (.t 10)⟩,
       ⟨(some 12), none, .mv (.t 11)⟩,
       ⟨(some 13), (some (12, false)), .fa 2 (.t 1)⟩,
       ⟨(some 14), (some (12, false)), .ld none (.t 13)⟩,
       ⟨(some 15), none, .pick (.t 12) (.c (.b true)) (.t 14)⟩])
     (.ite (.t 15)
      (.seq
       (.reg [
         ⟨(some 16), none, .mv (.t 3)⟩,
         ⟨(some 2), none, .mv (.t 16)⟩])
       .ret)
      .skip))
    (.seq
     (.seq
      (.reg [
        ⟨(some 4), none, .mv (.c (.i .i64 0))⟩])
      (.blk 0
       (.loop
        (.seq
         (.seq
          (.reg [
            ⟨(some 17), none, .mv (.t 4)⟩,
            ⟨(some 18), none, .fa 0 (.t 1)⟩,
            ⟨(some 19), none, .ld none (.t 18)⟩,
            ⟨(some 20), none, .len 0 (.t 19)⟩,
            ⟨(some 21), none, .bin .lss (.t 17) (.t 20)⟩])
          (.ite (.t 21)
           .skip
           (.exit 0)))
         (.seq
          (.blk 1
           (.seq
            (.reg [
              ⟨(some 25), none, .fa 0 (.t 1)⟩,
              ⟨(some 26), none, .ld none (.t 25)⟩,
              ⟨(some 27), none, .mv (.t 4)⟩,
              ⟨(some 28), none, .ia 1 (.t 26) (.t 27)⟩,
              ⟨(some 29), none, .ld none (.t 28)⟩,
              ⟨(some 30), none, .call ref52_Decode [(.t 29)]⟩,
              ⟨(some 24), none, .mv (.t 30)⟩,
              ⟨(some 31), none, .ext (.t 24) 0⟩,
              ⟨(some 32), none, .ext (.t 24) 1⟩,
              ⟨(some 5), none, .alloc [(.i .i64 0), (.i .i64 0), (.i .i64 0), (.i .i64 0), (.i .i64 0), (.i .i64 0), (.i .i64 0), (.i .i64 0), (.i .i64 0), (.i .i64 0), (.i .i64 0), (.i .i64 0)]⟩,
              ⟨none, none, .st 12 (.t 5) (.t 31)⟩,
              ⟨(some 6), none, .mv (.t 32)⟩])
            (.seq
             (.seq
              (.reg [
                ⟨(some 33), none, .mv (.t 6)⟩,
                ⟨(some 34), none, .bin .neq (.t 33) (.c (.i .i64 0))⟩,
                ⟨(some 35), none, .mv (.t 34)⟩,
                ⟨(some 36), (some (35, false)), .fa 1 (.t 5)⟩,
                ⟨(some 37), (some (35, false)), .ld none (.t 36)⟩,
                ⟨(some 38), (some (35, false)), .fa 0 (.t 1)⟩,
                ⟨(some 39), (some (35, false)), .ld none (.t 38)⟩,
                ⟨(some 40), (some (35, false)), .len 0 (.t 39)⟩,
                ⟨(some 41), (some (35, false)), .bin .rem (.t 37) (.t 40)⟩,
                ⟨(some 42), (some (35, false)), .mv (.t 4)⟩,
                ⟨(some 43), (some (35, false)), .bin .neq (.t 41) (.t 42)⟩,
                ⟨(some 44), none, .pick (.t 35) (.c (.b true)) (.t 43)⟩])
              (.ite (.t 44)
               (.exit 1)
               .skip))
             (.seq
              (.reg [
                ⟨(some 45), none, .mv (.t 3)⟩,
                ⟨(some 46), none, .ld (some 12) (.t 5)⟩,
                ⟨(some 47), none, .bsi 12 1 [(.i .i64 0), (.i .i64 0), (.i .i64 0), (.i .i64 0), (.i .i64 0), (.i .i64 0), (.i .i64 0), (.i .i64 0), (.i .i64 0), (.i .i64 0), (.i .i64 0), (.i .i64 0)] [(0, (.t 46))]⟩,
                ⟨(some 48), none, .app 12 96 (.t 45) (.t 47)⟩,
                ⟨(some 3), none, .mv (.t 48)⟩])
              (.seq
               (.reg [
                 ⟨(some 49), none, .mv (.t 3)⟩,
                 ⟨(some 50), none, .len 0 (.t 49)⟩,
                 ⟨(some 51), none, .bin .sub (.t 50) (.c (.i .i64 1))⟩,
                 ⟨(some 7), none, .mv (.t 51)⟩])
               (.blk 2
                (.loop
                 (.seq
                  (.seq
                   (.drw [
                     ⟨(some 52), none, .mv (.t 7)⟩,
                     ⟨(some 53), none, .bin .gtr (.t 52) (.c (.i .i64 0))⟩,
                     ⟨(some 54), none, .mv (.t 53)⟩,
                     ⟨(some 55), (some (54, true)), .mv (.t 3)⟩,
                     ⟨(some 56), (some (54, true)), .mv (.t 7)⟩,
                     ⟨(some 57), (some (54, true)), .ia 12 (.t 55) (.t 56)⟩,
                     ⟨(some 58), (some (54, true)), .fa 1 (.t 57)⟩,
                     ⟨(some 59), (some (54, true)), .ld none (.t 58)⟩,
                     ⟨(some 60), (some (54, true)), .mv (.t 3)⟩,
                     ⟨(some 61), (some (54, true)), .mv (.t 7)⟩,
                     ⟨(some 62), (some (54, true)), .bin .sub (.t 61) (.c (.i .i64 1))⟩,
                     ⟨(some 63), (some (54, true)), .ia 12 (.t 60) (.t 62)⟩,
                     ⟨(some 64), (some (54, true)), .fa 1 (.t 63)⟩,
                     ⟨(some 65), (some (54, true)), .ld none (.t 64)⟩,
                     ⟨(some 66), (some (54, true)), .bin .lss (.t 59) (.t 65)⟩,
                     ⟨(some 67), none, .pick (.t 54) (.t 66) (.c (.b false))⟩] [])
                   (.ite (.t 67)
                    .skip
                    (.exit 2)))
                  (.seq
                   (.blk 3
                    (.seq
                     (.reg [
                       ⟨(some 70), none, .mv (.t 3)⟩,
                       ⟨(some 71), none, .mv (.t 7)⟩,
                       ⟨(some 72), none, .ia 12 (.t 70) (.t 71)⟩,
                       ⟨(some 73), none, .ld (some 12) (.t 72)⟩,
                       ⟨(some 8), none, .alloc [(.i .i64 0), (.i .i64 0), (.i .i64 0), (.i .i64 0), (.i .i64 0), (.i .i64 0), (.i .i64 0), (.i .i64 0), (.i .i64 0), (.i .i64 0), (.i .i64 0), (.i .i64 0)]⟩,
                       ⟨none, none, .st 12 (.t 8) (.t 73)⟩])
                     (.seq
                      (.reg [
                        ⟨(some 74), none, .mv (.t 3)⟩,
                        ⟨(some 75), none, .mv (.t 7)⟩,
                        ⟨(some 76), none, .mv (.t 3)⟩,
                        ⟨(some 77), none, .mv (.t 7)⟩,
                        ⟨(some 78), none, .bin .sub (.t 77) (.c (.i .i64 1))⟩,
                        ⟨(some 79), none, .ia 12 (.t 76) (.t 78)⟩,
                        ⟨(some 80), none, .ld (some 12) (.t 79)⟩,
                        ⟨(some 81), none, .ia 12 (.t 74) (.t 75)⟩,
                        ⟨none, none, .st 12 (.t 81) (.t 80)⟩])
                      (.reg [
                        ⟨(some 82), none, .mv (.t 3)⟩,
                        ⟨(some 83), none, .mv (.t 7)⟩,
                        ⟨(some 84), none, .bin .sub (.t 83) (.c (.i .i64 1))⟩,
                        ⟨(some 85), none, .ld (some 12) (.t 8)⟩,
                        ⟨(some 86), none, .ia 12 (.t 82) (.t 84)⟩,
                        ⟨none, none, .st 12 (.t 86) (.t 85)⟩]))))
                   (.reg [
                     ⟨(some 68), none, .mv (.t 7)⟩,
                     ⟨(some 69), none, .bin .sub (.t 68) (.c (.i .i64 1))⟩,
                     ⟨(some 7), none, .mv (.t 69)⟩]))))))))))
          (.reg [
            ⟨(some 22), none, .mv (.t 4)⟩,
            ⟨(some 23), none, .bin .add (.t 22) (.c (.i .i64 1))⟩,
            ⟨(some 4), none, .mv (.t 23)⟩]))))))
     (.seq
      (.reg [
        ⟨(some 87), none, .mv (.t 3)⟩,
        ⟨(some 2), none, .mv (.t 87)⟩])
      .ret)))))
def ref52_All.r : List Rr := [.tmp 2]
abbrev ref52_All.n : Nat := 88
def ref52_Last.c (ref52_All : FuncId) : C :=
 (.seq
  (.reg [
    ⟨(some 1), none, .box (.t 0)⟩,
    ⟨(some 2), none, .alloc [(.i .i64 0), (.i .i64 0), (.i .i64 0), (.i .i64 0), (.i .i64 0), (.i .i64 0), (.i .i64 0), (.i .i64 0), (.i .i64 0), (.i .i64 0), (.i .i64 0), (.i .i64 0)]⟩,
    ⟨(some 3), none, .mv (.c (.b false))⟩])
  (.seq
   (.reg [
     ⟨(some 5), none, .ld (some 4) (.t 1)⟩,
     ⟨(some 6), none, .call ref52_All [(.t 5)]⟩,
     ⟨(some 4), none, .mv (.t 6)⟩])
   (.seq
    (.seq
     (.reg [
       ⟨(some 7), none, .mv (.t 4)⟩,
       ⟨(some 8), none, .len 0 (.t 7)⟩,
       ⟨(some 9), none, .bin .eql (.t 8) (.c (.i .i64 0))⟩])
     (.ite (.t 9)
      (.seq
       (.reg [
         ⟨(some 10), none, .build [(.i .i64 0), (.i .i64 0), (.i .i64 0), (.i .i64 0), (.i .i64 0), (.i .i64 0), (.i .i64 0), (.i .i64 0), (.i .i64 0), (.i .i64 0), (.i .i64 0), (.i .i64 0)] []⟩,
         ⟨none, none, .st 12 (.t 2) (.t 10)⟩,
         ⟨(some 3), none, .mv (.c (.b false))⟩])
       .ret)
      .skip))
    (.seq
     (.reg [
       ⟨(some 11), none, .mv (.t 4)⟩,
       ⟨(some 12), none, .mv (.t 4)⟩,
       ⟨(some 13), none, .len 0 (.t 12)⟩,
       ⟨(some 14), none, .bin .sub (.t 13) (.c (.i .i64 1))⟩,
       ⟨(some 15), none, .ia 12 (.t 11) (.t 14)⟩,
       ⟨(some 16), none, .ld (some 12) (.t 15)⟩,
       ⟨none, none, .st 12 (.t 2) (.t 16)⟩,
       ⟨(some 3), none, .mv (.c (.b true))⟩])
     .ret))))
def ref52_Last.r : List Rr := [.cell 2 (some 12), .tmp 3]
abbrev ref52_Last.n : Nat := 17
def ref52_Append.c (ref52_Encode ref51_Valid ref52_Last ref51_Write : FuncId) : C :=
 (.seq
  (.reg [
    ⟨(some 2), none, .box (.t 0)⟩,
    ⟨(some 3), none, .box (.t 1)⟩,
    ⟨(some 4), none, .alloc [.nil, (.i .i64 0), (.b false), (.i .i64 0)]⟩,
    ⟨(some 5), none, .mv (.c (.i .i64 0))⟩])
  (.seq
   (.reg [
     ⟨(some 11), none, .ld (some 12) (.t 3)⟩,
     ⟨(some 12), none, .call ref52_Encode [(.t 11)]⟩,
     ⟨(some 10), none, .mv (.t 12)⟩,
     ⟨(some 13), none, .ext (.t 10) 0⟩,
     ⟨(some 14), none, .ext (.t 10) 1⟩,
     ⟨(some 6), none, .mv (.t 13)⟩,
     ⟨(some 7), none, .mv (.t 14)⟩])
   (.seq
    (.seq
     (.reg [
       ⟨(some 15), none, .mv (.t 7)⟩,
       ⟨(some 16), none, .bin .neq (.t 15) (.c (.i .i64 0))⟩,
       ⟨(some 17), none, .mv (.t 16)⟩,
       ⟨(some 18), (some (17, false)), .ld (some 4) (.t 2)⟩,
       ⟨(some 19), (some (17, false)), .call ref51_Valid [(.t 18)]⟩,
       ⟨(some 20), (some (17, false)), .un .not (.t 19)⟩,
       ⟨(some 21), none, .pick (.t 17) (.c (.b true)) (.t 20)⟩])
     (.ite (.t 21)
      (.seq
       (.reg [
         ⟨(some 22), none, .ld (some 4) (.t 2)⟩,
         ⟨none, none, .st 4 (.t 4) (.t 22)⟩,
         ⟨(some 5), none, .mv (.c (.i .i64 1))⟩])
       .ret)
      .skip))
    (.seq
     (.seq
      (.reg [
        ⟨(some 23), none, .fa 2 (.t 2)⟩,
        ⟨(some 24), none, .ld none (.t 23)⟩])
      (.ite (.t 24)
       (.seq
        (.reg [
          ⟨(some 25), none, .ld (some 4) (.t 2)⟩,
          ⟨none, none, .st 4 (.t 4) (.t 25)⟩,
          ⟨(some 5), none, .mv (.c (.i .i64 17))⟩])
        .ret)
       .skip))
     (.seq
      (.reg [
        ⟨(some 27), none, .ld (some 4) (.t 2)⟩,
        ⟨(some 28), none, .call ref52_Last [(.t 27)]⟩,
        ⟨(some 26), none, .mv (.t 28)⟩,
        ⟨(some 29), none, .ext (.t 26) 0⟩,
        ⟨(some 30), none, .ext (.t 26) 1⟩,
        ⟨(some 8), none, .alloc [(.i .i64 0), (.i .i64 0), (.i .i64 0), (.i .i64 0), (.i .i64 0), (.i .i64 0), (.i .i64 0), (.i .i64 0), (.i .i64 0), (.i .i64 0), (.i .i64 0), (.i .i64 0)]⟩,
        ⟨none, none, .st 12 (.t 8) (.t 29)⟩,
        ⟨(some 9), none, .mv (.t 30)⟩])
      (.seq
       (.seq
        (.reg [
          ⟨(some 31), none, .fa 1 (.t 3)⟩,
          ⟨(some 32), none, .ld none (.t 31)⟩,
          ⟨(some 33), none, .fa 1 (.t 8)⟩,
          ⟨(some 34), none, .ld none (.t 33)⟩,
          ⟨(some 35), none, .bin .add (.t 34) (.c (.i .i64 1))⟩,
          ⟨(some 36), none, .bin .neq (.t 32) (.t 35)⟩])
        (.ite (.t 36)
         (.seq
          (.reg [
            ⟨(some 37), none, .ld (some 4) (.t 2)⟩,
            ⟨none, none, .st 4 (.t 4) (.t 37)⟩,
            ⟨(some 5), none, .mv (.c (.i .i64 11))⟩])
          .ret)
         .skip))
       (.seq
        (.drw [
          ⟨(some 38), none, .ld (some 4) (.t 2)⟩,
          ⟨(some 39), none, .fa 1 (.t 3)⟩,
          ⟨(some 40), none, .ld none (.t 39)⟩,
          ⟨(some 41), none, .fa 0 (.t 2)⟩,
          ⟨(some 42), none, .ld none (.t 41)⟩,
          ⟨(some 43), none, .len 0 (.t 42)⟩,
          ⟨(some 44), none, .bin .rem (.t 40) (.t 43)⟩,
          ⟨(some 45), none, .mv (.t 6)⟩,
          ⟨(some 46), none, .call ref51_Write [(.t 38), (.t 44), (.t 45)]⟩,
          ⟨(some 47), none, .ext (.t 46) 0⟩,
          ⟨(some 48), none, .ext (.t 46) 1⟩,
          ⟨none, none, .st 4 (.t 4) (.t 47)⟩,
          ⟨(some 5), none, .mv (.t 48)⟩] [])
        .ret)))))))
def ref52_Append.r : List Rr := [.cell 4 (some 4), .tmp 5]
abbrev ref52_Append.n : Nat := 49
def law52_few.c : C :=
 (.seq
  (.reg [
    ⟨(some 1), none, .box (.t 0)⟩,
    ⟨(some 2), none, .mv (.c (.b false))⟩])
  (.seq
   (.seq
    (.reg [
      ⟨(some 3), none, .mv (.c (.i .i64 0))⟩])
    (.blk 0
     (.loop
      (.seq
       (.seq
        (.reg [
          ⟨(some 4), none, .mv (.t 3)⟩,
          ⟨(some 5), none, .fa 0 (.t 1)⟩,
          ⟨(some 6), none, .ld none (.t 5)⟩,
          ⟨(some 7), none, .len 0 (.t 6)⟩,
          ⟨(some 8), none, .bin .lss (.t 4) (.t 7)⟩])
        (.ite (.t 8)
         .skip
         (.exit 0)))
       (.seq
        (.blk 1
         (.seq
          (.reg [
            ⟨(some 11), none, .mv (.t 3)⟩,
            ⟨(some 12), none, .bin .geq (.t 11) (.c (.i .i64 20))⟩,
            ⟨(some 13), none, .mv (.t 12)⟩,
            ⟨(some 14), (some (13, false)), .fa 0 (.t 1)⟩,
            ⟨(some 15), (some (13, false)), .ld none (.t 14)⟩,
            ⟨(some 16), (some (13, false)), .mv (.t 3)⟩,
            ⟨(some 17), (some (13, false)), .ia 1 (.t 15) (.t 16)⟩,
            ⟨(some 18), (some (13, false)), .ld none (.t 17)⟩,
            ⟨(some 19), (some (13, false)), .len 1 (.t 18)⟩,
            ⟨(some 20), (some (13, false)), .bin .gtr (.t 19) (.c (.i .i64 100))⟩,
            ⟨(some 21), none, .pick (.t 13) (.c (.b true)) (.t 20)⟩])
          (.ite (.t 21)
           (.seq
            (.reg [
              ⟨(some 2), none, .mv (.c (.b false))⟩])
            .ret)
           .skip)))
        (.reg [
          ⟨(some 9), none, .mv (.t 3)⟩,
          ⟨(some 10), none, .bin .add (.t 9) (.c (.i .i64 1))⟩,
          ⟨(some 3), none, .mv (.t 10)⟩]))))))
   (.seq
    (.reg [
      ⟨(some 2), none, .mv (.c (.b true))⟩])
    .ret)))
def law52_few.r : List Rr := [.tmp 2]
abbrev law52_few.n : Nat := 22
def law52_records.c : C :=
 (.seq
  (.reg [
    ⟨(some 4), none, .mv (.c (.b false))⟩])
  (.seq
   (.seq
    (.reg [
      ⟨(some 6), none, .mv (.t 0)⟩,
      ⟨(some 7), none, .len 0 (.t 6)⟩,
      ⟨(some 8), none, .mv (.t 1)⟩,
      ⟨(some 9), none, .len 0 (.t 8)⟩,
      ⟨(some 10), none, .bin .neq (.t 7) (.t 9)⟩])
    (.ite (.t 10)
     (.seq
      (.reg [
        ⟨(some 4), none, .mv (.c (.b false))⟩])
      .ret)
     .skip))
   (.seq
    (.seq
     (.reg [
       ⟨(some 5), none, .mv (.c (.i .i64 0))⟩])
     (.blk 0
      (.loop
       (.seq
        (.seq
         (.reg [
           ⟨(some 11), none, .mv (.t 5)⟩,
           ⟨(some 12), none, .mv (.t 0)⟩,
           ⟨(some 13), none, .len 0 (.t 12)⟩,
           ⟨(some 14), none, .bin .lss (.t 11) (.t 13)⟩])
         (.ite (.t 14)
          .skip
          (.exit 0)))
        (.seq
         (.blk 1
          (.seq
           (.drw [
             ⟨(some 17), none, .mv (.t 0)⟩,
             ⟨(some 18), none, .mv (.t 5)⟩,
             ⟨(some 19), none, .ia 12 (.t 17) (.t 18)⟩,
             ⟨(some 20), none, .ld (some 12) (.t 19)⟩,
             ⟨(some 21), none, .mv (.t 1)⟩,
             ⟨(some 22), none, .mv (.t 5)⟩,
             ⟨(some 23), none, .ia 12 (.t 21) (.t 22)⟩,
             ⟨(some 24), none, .ld (some 12) (.t 23)⟩,
             ⟨(some 25), none, .eqa [1, 1, 1, 1, 1, 1, 1, 1, 1, 1, 1, 1] true (.t 20) (.t 24)⟩] [])
           (.ite (.t 25)
            (.seq
             (.reg [
               ⟨(some 4), none, .mv (.c (.b false))⟩])
             .ret)
            .skip)))
         (.reg [
           ⟨(some 15), none, .mv (.t 5)⟩,
           ⟨(some 16), none, .bin .add (.t 15) (.c (.i .i64 1))⟩,
           ⟨(some 5), none, .mv (.t 16)⟩]))))))
    (.seq
     (.reg [
       ⟨(some 4), none, .mv (.c (.b true))⟩])
     .ret))))
def law52_records.r : List Rr := [.tmp 4]
abbrev law52_records.n : Nat := 26
def law52_JournalReads.c (law52_few law52_awake journal_Last ref52_Last journal_All ref52_All law52_records : FuncId) : C :=
 (.seq
  (.reg [
    ⟨(some 1), none, .box (.t 0)⟩,
    ⟨(some 2), none, .mv (.c (.b false))⟩])
  (.seq
   (.seq
    (.reg [
      ⟨(some 7), none, .ld (some 4) (.t 1)⟩,
      ⟨(some 8), none, .call law52_few [(.t 7)]⟩,
      ⟨(some 9), none, .un .not (.t 8)⟩])
    (.ite (.t 9)
     (.seq
      (.reg [
        ⟨(some 10), none, .call law52_awake []⟩,
        ⟨(some 2), none, .mv (.t 10)⟩])
      .ret)
     .skip))
   (.seq
    (.reg [
      ⟨(some 12), none, .ld (some 4) (.t 1)⟩,
      ⟨(some 13), none, .call journal_Last [(.t 12)]⟩,
      ⟨(some 11), none, .mv (.t 13)⟩,
      ⟨(some 14), none, .ext (.t 11) 0⟩,
      ⟨(some 15), none, .ext (.t 11) 1⟩,
      ⟨(some 3), none, .alloc [(.i .i64 0), (.i .i64 0), (.i .i64 0), (.i .i64 0), (.i .i64 0), (.i .i64 0), (.i .i64 0), (.i .i64 0), (.i .i64 0), (.i .i64 0), (.i .i64 0), (.i .i64 0)]⟩,
      ⟨none, none, .st 12 (.t 3) (.t 14)⟩,
      ⟨(some 4), none, .mv (.t 15)⟩])
    (.seq
     (.reg [
       ⟨(some 17), none, .ld (some 4) (.t 1)⟩,
       ⟨(some 18), none, .call ref52_Last [(.t 17)]⟩,
       ⟨(some 16), none, .mv (.t 18)⟩,
       ⟨(some 19), none, .ext (.t 16) 0⟩,
       ⟨(some 20), none, .ext (.t 16) 1⟩,
       ⟨(some 5), none, .alloc [(.i .i64 0), (.i .i64 0), (.i .i64 0), (.i .i64 0), (.i .i64 0), (.i .i64 0), (.i .i64 0), (.i .i64 0), (.i .i64 0), (.i .i64 0), (.i .i64 0), (.i .i64 0)]⟩,
       ⟨none, none, .st 12 (.t 5) (.t 19)⟩,
       ⟨(some 6), none, .mv (.t 20)⟩])
     (.seq
      (.drw [
        ⟨(some 21), none, .ld (some 4) (.t 1)⟩,
        ⟨(some 22), none, .call journal_All [(.t 21)]⟩,
        ⟨(some 23), none, .ld (some 4) (.t 1)⟩,
        ⟨(some 24), none, .call ref52_All [(.t 23)]⟩,
        ⟨(some 25), none, .call law52_records [(.t 22), (.t 24)]⟩,
        ⟨(some 26), none, .mv (.t 25)⟩,
        ⟨(some 27), (some (26, true)), .ld (some 12) (.t 3)⟩,
        ⟨(some 28), (some (26, true)), .ld (some 12) (.t 5)⟩,
        ⟨(some 29), (some (26, true)), .eqa [1, 1, 1, 1, 1, 1, 1, 1, 1, 1, 1, 1] false (.t 27) (.t 28)⟩,
        ⟨(some 30), none, .pick (.t 26) (.t 29) (.c (.b false))⟩,
        ⟨(some 31), none, .mv (.t 30)⟩,
        ⟨(some 32), (some (31, true)), .mv (.t 4)⟩,
        ⟨(some 33), (some (31, true)), .mv (.t 6)⟩,
        ⟨(some 34), (some (31, true)), .eqb false (.t 32) (.t 33)⟩,
        ⟨(some 35), none, .pick (.t 31) (.t 34) (.c (.b false))⟩,
        ⟨(some 36), none, .mv (.t 35)⟩,
        ⟨(some 37), (some (36, true)), .call law52_awake []⟩,
        ⟨(some 38), none, .pick (.t 36) (.t 37) (.c (.b false))⟩,
        ⟨(some 2), none, .mv (.t 38)⟩] [[], [], [1], [], [], [], [], [], [], [], [], [], [], [], [], [], [], [], []])
      .ret)))))
def law52_JournalReads.r : List Rr := [.tmp 2]
abbrev law52_JournalReads.n : Nat := 39
def law52_JournalAppends.c (law52_few law52_awake journal_Append ref52_Append ref51_Same : FuncId) : C :=
 (.seq
  (.reg [
    ⟨(some 2), none, .box (.t 0)⟩,
    ⟨(some 3), none, .box (.t 1)⟩,
    ⟨(some 4), none, .mv (.c (.b false))⟩])
  (.seq
   (.seq
    (.reg [
      ⟨(some 9), none, .ld (some 4) (.t 2)⟩,
      ⟨(some 10), none, .call law52_few [(.t 9)]⟩,
      ⟨(some 11), none, .un .not (.t 10)⟩])
    (.ite (.t 11)
     (.seq
      (.reg [
        ⟨(some 12), none, .call law52_awake []⟩,
        ⟨(some 4), none, .mv (.t 12)⟩])
      .ret)
     .skip))
   (.seq
    (.reg [
      ⟨(some 14), none, .ld (some 4) (.t 2)⟩,
      ⟨(some 15), none, .ld (some 12) (.t 3)⟩,
      ⟨(some 16), none, .call journal_Append [(.t 14), (.t 15)]⟩,
      ⟨(some 13), none, .mv (.t 16)⟩,
      ⟨(some 17), none, .ext (.t 13) 0⟩,
      ⟨(some 18), none, .ext (.t 13) 1⟩,
      ⟨(some 5), none, .alloc [.nil, (.i .i64 0), (.b false), (.i .i64 0)]⟩,
      ⟨none, none, .st 4 (.t 5) (.t 17)⟩,
      ⟨(some 6), none, .mv (.t 18)⟩])
    (.seq
     (.reg [
       ⟨(some 20), none, .ld (some 4) (.t 2)⟩,
       ⟨(some 21), none, .ld (some 12) (.t 3)⟩,
       ⟨(some 22), none, .call ref52_Append [(.t 20), (.t 21)]⟩,
       ⟨(some 19), none, .mv (.t 22)⟩,
       ⟨(some 23), none, .ext (.t 19) 0⟩,
       ⟨(some 24), none, .ext (.t 19) 1⟩,
       ⟨(some 7), none, .alloc [.nil, (.i .i64 0), (.b false), (.i .i64 0)]⟩,
       ⟨none, none, .st 4 (.t 7) (.t 23)⟩,
       ⟨(some 8), none, .mv (.t 24)⟩])
     (.seq
      (.reg [
        ⟨(some 25), none, .ld (some 4) (.t 5)⟩,
        ⟨(some 26), none, .ld (some 4) (.t 7)⟩,
        ⟨(some 27), none, .call ref51_Same [(.t 25), (.t 26)]⟩,
        ⟨(some 28), none, .mv (.t 27)⟩,
        ⟨(some 29), (some (28, true)), .mv (.t 6)⟩,
        ⟨(some 30), (some (28, true)), .mv (.t 8)⟩,
        ⟨(some 31), (some (28, true)), .bin .eql (.t 29) (.t 30)⟩,
        ⟨(some 32), none, .pick (.t 28) (.t 31) (.c (.b false))⟩,
        ⟨(some 33), none, .mv (.t 32)⟩,
        ⟨(some 34), (some (33, true)), .call law52_awake []⟩,
        ⟨(some 35), none, .pick (.t 33) (.t 34) (.c (.b false))⟩,
        ⟨(some 4), none, .mv (.t 35)⟩])
      .ret)))))
def law52_JournalAppends.r : List Rr := [.tmp 4]
abbrev law52_JournalAppends.n : Nat := 36
def law52_JournalWindow.c (flash_New journal_Valid journal_Append journal_All law52_records law52_awake : FuncId) : C :=
 (.seq
  (.reg [
    ⟨(some 4), none, .mv (.c (.b false))⟩])
  (.seq
   (.reg [
     ⟨(some 13), none, .mv (.t 0)⟩,
     ⟨(some 14), none, .bin .rem (.t 13) (.c (.i .u8 8))⟩,
     ⟨(some 15), none, .cvi .i64 (.t 14)⟩,
     ⟨(some 16), none, .bin .add (.c (.i .i64 2)) (.t 15)⟩,
     ⟨(some 5), none, .mv (.t 16)⟩])
   (.seq
    (.reg [
      ⟨(some 18), none, .mv (.t 5)⟩,
      ⟨(some 19), none, .call flash_New [(.t 18)]⟩,
      ⟨(some 17), none, .mv (.t 19)⟩,
      ⟨(some 20), none, .ext (.t 17) 0⟩,
      ⟨(some 21), none, .ext (.t 17) 1⟩,
      ⟨(some 6), none, .alloc [.nil, (.i .i64 0), (.b false), (.i .i64 0)]⟩,
      ⟨none, none, .st 4 (.t 6) (.t 20)⟩,
      ⟨(some 7), none, .mv (.t 21)⟩])
    (.seq
     (.seq
      (.reg [
        ⟨(some 22), none, .mv (.t 7)⟩,
        ⟨(some 23), none, .bin .neq (.t 22) (.c (.i .i64 0))⟩])
      (.ite (.t 23)
       (.seq
        (.reg [
          ⟨(some 4), none, .mv (.c (.b false))⟩])
        .ret)
       .skip))
     (.seq
      (.reg [
        ⟨(some 8), none, .mv (.c .nil)⟩])
      (.seq
       (.seq
        (.reg [
          ⟨(some 9), none, .mv (.c (.i .i64 0))⟩])
        (.blk 0
         (.loop
          (.seq
           (.seq
            (.reg [
              ⟨(some 24), none, .mv (.t 9)⟩,
              ⟨(some 25), none, .mv (.t 1)⟩,
              ⟨(some 26), none, .len 0 (.t 25)⟩,
              ⟨(some 27), none, .bin .lss (.t 24) (.t 26)⟩,
              ⟨(some 28), none, .mv (.t 27)⟩,
              ⟨(some 29), (some (28, true)), .mv (.t 9)⟩,
              ⟨(some 30), (some (28, true)), .bin .lss (.t 29) (.c (.i .i64 40))⟩,
              ⟨(some 31), none, .pick (.t 28) (.t 30) (.c (.b false))⟩])
            (.ite (.t 31)
             .skip
             (.exit 0)))
           (.seq
            (.blk 1
             (.seq
              (.reg [
                ⟨(some 34), none, .mv (.t 1)⟩,
                ⟨(some 35), none, .mv (.t 9)⟩,
                ⟨(some 36), none, .ia 12 (.t 34) (.t 35)⟩,
                ⟨(some 37), none, .ld (some 12) (.t 36)⟩,
                ⟨(some 10), none, .alloc [(.i .i64 0), (.i .i64 0), (.i .i64 0), (.i .i64 0), (.i .i64 0), (.i .i64 0), (.i .i64 0), (.i .i64 0), (.i .i64 0), (.i .i64 0), (.i .i64 0), (.i .i64 0)]⟩,
                ⟨none, none, .st 12 (.t 10) (.t 37)⟩])
              (.seq
               (.reg [
                 ⟨(some 38), none, .mv (.t 8)⟩,
                 ⟨(some 39), none, .len 0 (.t 38)⟩,
                 ⟨(some 40), none, .bin .add (.t 39) (.c (.i .i64 1))⟩,
                 ⟨(some 41), none, .fa 1 (.t 10)⟩,
                 ⟨none, none, .st 1 (.t 41) (.t 40)⟩])
               (.seq
                (.seq
                 (.reg [
                   ⟨(some 42), none, .ld (some 12) (.t 10)⟩,
                   ⟨(some 43), none, .call journal_Valid [(.t 42)]⟩,
                   ⟨(some 44), none, .un .not (.t 43)⟩])
                 (.ite (.t 44)
                  (.exit 1)
                  .skip))
                (.seq
                 (.reg [
                   ⟨(some 46), none, .ld (some 4) (.t 6)⟩,
                   ⟨(some 47), none, .ld (some 12) (.t 10)⟩,
                   ⟨(some 48), none, .call journal_Append [(.t 46), (.t 47)]⟩,
                   ⟨(some 45), none, .mv (.t 48)⟩,
                   ⟨(some 49), none, .ext (.t 45) 0⟩,
                   ⟨(some 50), none, .ext (.t 45) 1⟩,
                   ⟨(some 11), none, .alloc [.nil, (.i .i64 0), (.b false), (.i .i64 0)]⟩,
                   ⟨none, none, .st 4 (.t 11) (.t 49)⟩,
                   ⟨(some 12), none, .mv (.t 50)⟩])
                 (.seq
                  (.seq
                   (.reg [
                     ⟨(some 51), none, .mv (.t 12)⟩,
                     ⟨(some 52), none, .bin .neq (.t 51) (.c (.i .i64 0))⟩])
                   (.ite (.t 52)
                    (.seq
                     (.reg [
                       ⟨(some 4), none, .mv (.c (.b false))⟩])
                     .ret)
                    .skip))
                  (.seq
                   (.reg [
                     ⟨(some 53), none, .ld (some 4) (.t 11)⟩,
                     ⟨none, none, .st 4 (.t 6) (.t 53)⟩])
                   (.reg [
                     ⟨(some 54), none, .mv (.t 8)⟩,
                     ⟨(some 55), none, .ld (some 12) (.t 10)⟩,
                     ⟨(some 56), none, .bsi 12 1 [(.i .i64 0), (.i .i64 0), (.i .i64 0), (.i .i64 0), (.i .i64 0), (.i .i64 0), (.i .i64 0), (.i .i64 0), (.i .i64 0), (.i .i64 0), (.i .i64 0), (.i .i64 0)] [(0, (.t 55))]⟩,
                     ⟨(some 57), none, .app 12 96 (.t 54) (.t 56)⟩,
                     ⟨(some 8), none, .mv (.t 57)⟩]))))))))
            (.reg [
              ⟨(some 32), none, .mv (.t 9)⟩,
              ⟨(some 33), none, .bin .add (.t 32) (.c (.i .i64 1))⟩,
              ⟨(some 9), none, .mv (.t 33)⟩]))))))
       (.seq
        (.drw [
          ⟨(some 58), none, .ld (some 4) (.t 6)⟩,
          ⟨(some 59), none, .call journal_All [(.t 58)]⟩,
          ⟨(some 60), none, .mv (.t 8)⟩,
          ⟨(some 61), none, .mv (.t 8)⟩,
          ⟨(some 62), none, .len 0 (.t 61)⟩,
          ⟨(some 63), none, .mv (.t 5)⟩,
          ⟨(some 64), none, .bin .sub (.t 62) (.t 63)⟩,
          ⟨(some 65), none, .mx [(.c (.i .i64 0)), (.t 64)]⟩,
          ⟨(some 66), none, .slc 12 (.t 60) (some (.t 65)) none⟩,
          ⟨(some 67), none, .call law52_records [(.t 59), (.t 66)]⟩,
          ⟨(some 68), none, .mv (.t 67)⟩,
          ⟨(some 69), (some (68, true)), .call law52_awake []⟩,
          ⟨(some 70), none, .pick (.t 68) (.t 69) (.c (.b false))⟩,
          ⟨(some 4), none, .mv (.t 70)⟩] [[], [], [], [], [1], [], [], [], [1], [], [], [], [], []])
        .ret)))))))
def law52_JournalWindow.r : List Rr := [.tmp 4]
abbrev law52_JournalWindow.n : Nat := 71
def law52_JournalSurvives.c (flash_New journal_Valid flash_Fail journal_Append flash_Power journal_Last law52_awake : FuncId) : C :=
 (.seq
  (.reg [
    ⟨(some 4), none, .mv (.c (.b false))⟩])
  (.seq
   (.reg [
     ⟨(some 15), none, .mv (.t 0)⟩,
     ⟨(some 16), none, .bin .rem (.t 15) (.c (.i .u8 8))⟩,
     ⟨(some 17), none, .cvi .i64 (.t 16)⟩,
     ⟨(some 18), none, .bin .add (.c (.i .i64 2)) (.t 17)⟩,
     ⟨(some 19), none, .call flash_New [(.t 18)]⟩,
     ⟨(some 14), none, .mv (.t 19)⟩,
     ⟨(some 20), none, .ext (.t 14) 0⟩,
     ⟨(some 21), none, .ext (.t 14) 1⟩,
     ⟨(some 5), none, .alloc [.nil, (.i .i64 0), (.b false), (.i .i64 0)]⟩,
     ⟨none, none, .st 4 (.t 5) (.t 20)⟩,
     ⟨(some 6), none, .mv (.t 21)⟩])
   (.seq
    (.seq
     (.reg [
       ⟨(some 22), none, .mv (.t 6)⟩,
       ⟨(some 23), none, .bin .neq (.t 22) (.c (.i .i64 0))⟩])
     (.ite (.t 23)
      (.seq
       (.reg [
         ⟨(some 4), none, .mv (.c (.b false))⟩])
       .ret)
      .skip))
    (.seq
     (.reg [
       ⟨(some 7), none, .alloc [(.i .i64 0), (.i .i64 0), (.i .i64 0), (.i .i64 0), (.i .i64 0), (.i .i64 0), (.i .i64 0), (.i .i64 0), (.i .i64 0), (.i .i64 0), (.i .i64 0), (.i .i64 0)]⟩])
     (.seq
      (.seq
       (.reg [
         ⟨(some 8), none, .mv (.c (.i .i64 0))⟩])
       (.blk 0
        (.loop
         (.seq
          (.seq
           (.reg [
             ⟨(some 24), none, .mv (.t 8)⟩,
             ⟨(some 25), none, .mv (.t 1)⟩,
             ⟨(some 26), none, .len 0 (.t 25)⟩,
             ⟨(some 27), none, .bin .lss (.t 24) (.t 26)⟩,
             ⟨(some 28), none, .mv (.t 27)⟩,
             ⟨(some 29), (some (28, true)), .mv (.t 8)⟩,
             ⟨(some 30), (some (28, true)), .bin .lss (.t 29) (.c (.i .i64 40))⟩,
             ⟨(some 31), none, .pick (.t 28) (.t 30) (.c (.b false))⟩])
           (.ite (.t 31)
            .skip
            (.exit 0)))
          (.seq
           (.blk 1
            (.seq
             (.reg [
               ⟨(some 34), none, .mv (.t 1)⟩,
               ⟨(some 35), none, .mv (.t 8)⟩,
               ⟨(some 36), none, .ia 14 (.t 34) (.t 35)⟩,
               ⟨(some 37), none, .fa 0 (.t 36)⟩,
               ⟨(some 38), none, .ld (some 12) (.t 37)⟩,
               ⟨(some 9), none, .alloc [(.i .i64 0), (.i .i64 0), (.i .i64 0), (.i .i64 0), (.i .i64 0), (.i .i64 0), (.i .i64 0), (.i .i64 0), (.i .i64 0), (.i .i64 0), (.i .i64 0), (.i .i64 0)]⟩,
               ⟨none, none, .st 12 (.t 9) (.t 38)⟩])
             (.seq
              (.reg [
                ⟨(some 39), none, .fa 1 (.t 7)⟩,
                ⟨(some 40), none, .ld none (.t 39)⟩,
                ⟨(some 41), none, .bin .add (.t 40) (.c (.i .i64 1))⟩,
                ⟨(some 42), none, .fa 1 (.t 9)⟩,
                ⟨none, none, .st 1 (.t 42) (.t 41)⟩])
              (.seq
               (.seq
                (.reg [
                  ⟨(some 43), none, .ld (some 12) (.t 9)⟩,
                  ⟨(some 44), none, .call journal_Valid [(.t 43)]⟩,
                  ⟨(some 45), none, .un .not (.t 44)⟩])
                (.ite (.t 45)
                 (.exit 1)
                 .skip))
               (.seq
                (.seq
                 (.reg [
                   ⟨(some 46), none, .mv (.t 1)⟩,
                   ⟨(some 47), none, .mv (.t 8)⟩,
                   ⟨(some 48), none, .ia 14 (.t 46) (.t 47)⟩,
                   ⟨(some 49), none, .fa 12 (.t 48)⟩,
                   ⟨(some 50), none, .ld none (.t 49)⟩])
                 (.ite (.t 50)
                  (.drw [
                    ⟨(some 51), none, .ld (some 4) (.t 5)⟩,
                    ⟨(some 52), none, .mv (.t 1)⟩,
                    ⟨(some 53), none, .mv (.t 8)⟩,
                    ⟨(some 54), none, .ia 14 (.t 52) (.t 53)⟩,
                    ⟨(some 55), none, .fa 13 (.t 54)⟩,
                    ⟨(some 56), none, .ld none (.t 55)⟩,
                    ⟨(some 57), none, .cvi .i64 (.t 56)⟩,
                    ⟨(some 58), none, .bin .rem (.t 57) (.c (.i .i64 65))⟩,
                    ⟨(some 59), none, .call flash_Fail [(.t 51), (.c (.i .i64 1)), (.t 58)]⟩,
                    ⟨none, none, .st 4 (.t 5) (.t 59)⟩] [])
                  .skip))
                (.seq
                 (.reg [
                   ⟨(some 61), none, .ld (some 4) (.t 5)⟩,
                   ⟨(some 62), none, .ld (some 12) (.t 9)⟩,
                   ⟨(some 63), none, .call journal_Append [(.t 61), (.t 62)]⟩,
                   ⟨(some 60), none, .mv (.t 63)⟩,
                   ⟨(some 64), none, .ext (.t 60) 0⟩,
                   ⟨(some 65), none, .ext (.t 60) 1⟩,
                   ⟨(some 10), none, .alloc [.nil, (.i .i64 0), (.b false), (.i .i64 0)]⟩,
                   ⟨none, none, .st 4 (.t 10) (.t 64)⟩,
                   ⟨(some 11), none, .mv (.t 65)⟩])
                 (.seq
                  (.seq
                   (.reg [
                     ⟨(some 66), none, .mv (.t 1)⟩,
                     ⟨(some 67), none, .mv (.t 8)⟩,
                     ⟨(some 68), none, .ia 14 (.t 66) (.t 67)⟩,
                     ⟨(some 69), none, .fa 12 (.t 68)⟩,
                     ⟨(some 70), none, .ld none (.t 69)⟩,
                     ⟨(some 71), none, .mv (.t 11)⟩,
                     ⟨(some 72), none, .bin .eql (.t 71) (.c (.i .i64 17))⟩,
                     ⟨(some 73), none, .eqb true (.t 70) (.t 72)⟩,
                     ⟨(some 74), none, .mv (.t 73)⟩,
                     ⟨(some 75), (some (74, false)), .mv (.t 1)⟩,
                     ⟨(some 76), (some (74, false)), .mv (.t 8)⟩,
                     ⟨(some 77), (some (74, false)), .ia 14 (.t 75) (.t 76)⟩,
                     ⟨(some 78), (some (74, false)), .fa 12 (.t 77)⟩,
                     ⟨(some 79), (some (74, false)), .ld none (.t 78)⟩,
                     ⟨(some 80), (some (74, false)), .un .not (.t 79)⟩,
                     ⟨(some 81), (some (74, false)), .mv (.t 80)⟩,
                     ⟨(some 82), (some (81, true)), .mv (.t 11)⟩,
                     ⟨(some 83), (some (81, true)), .bin .neq (.t 82) (.c (.i .i64 0))⟩,
                     ⟨(some 84), (some (74, false)), .pick (.t 81) (.t 83) (.c (.b false))⟩,
                     ⟨(some 85), none, .pick (.t 74) (.c (.b true)) (.t 84)⟩])
                   (.ite (.t 85)
                    (.seq
                     (.reg [
                       ⟨(some 4), none, .mv (.c (.b false))⟩])
                     .ret)
                    .skip))
                  (.seq
                   (.reg [
                     ⟨(some 86), none, .ld (some 4) (.t 10)⟩,
                     ⟨(some 87), none, .call flash_Power [(.t 86)]⟩,
                     ⟨none, none, .st 4 (.t 5) (.t 87)⟩])
                   (.seq
                    (.reg [
                      ⟨(some 89), none, .ld (some 4) (.t 5)⟩,
                      ⟨(some 90), none, .call journal_Last [(.t 89)]⟩,
                      ⟨(some 88), none, .mv (.t 90)⟩,
                      ⟨(some 91), none, .ext (.t 88) 0⟩,
                      ⟨(some 92), none, .ext (.t 88) 1⟩,
                      ⟨(some 12), none, .alloc [(.i .i64 0), (.i .i64 0), (.i .i64 0), (.i .i64 0), (.i .i64 0), (.i .i64 0), (.i .i64 0), (.i .i64 0), (.i .i64 0), (.i .i64 0), (.i .i64 0), (.i .i64 0)]⟩,
                      ⟨none, none, .st 12 (.t 12) (.t 91)⟩,
                      ⟨(some 13), none, .mv (.t 92)⟩])
                    (.seq
                     (.seq
                      (.reg [
                        ⟨(some 93), none, .ld (some 12) (.t 12)⟩,
                        ⟨(some 94), none, .ld (some 12) (.t 9)⟩,
                        ⟨(some 95), none, .eqa [1, 1, 1, 1, 1, 1, 1, 1, 1, 1, 1, 1] true (.t 93) (.t 94)⟩,
                        ⟨(some 96), none, .mv (.t 95)⟩,
                        ⟨(some 97), (some (96, true)), .ld (some 12) (.t 12)⟩,
                        ⟨(some 98), (some (96, true)), .ld (some 12) (.t 7)⟩,
                        ⟨(some 99), (some (96, true)), .eqa [1, 1, 1, 1, 1, 1, 1, 1, 1, 1, 1, 1] true (.t 97) (.t 98)⟩,
                        ⟨(some 100), (some (96, true)), .mv (.t 99)⟩,
                        ⟨(some 101), (some (100, false)), .mv (.t 11)⟩,
                        ⟨(some 102), (some (100, false)), .bin .eql (.t 101) (.c (.i .i64 0))⟩,
                        ⟨(some 103), (some (96, true)), .pick (.t 100) (.c (.b true)) (.t 102)⟩,
                        ⟨(some 104), none, .pick (.t 96) (.t 103) (.c (.b false))⟩])
                      (.ite (.t 104)
                       (.seq
                        (.reg [
                          ⟨(some 4), none, .mv (.c (.b false))⟩])
                        .ret)
                       .skip))
                     (.reg [
                       ⟨(some 105), none, .ld (some 12) (.t 12)⟩,
                       ⟨none, none, .st 12 (.t 7) (.t 105)⟩])))))))))))
           (.reg [
             ⟨(some 32), none, .mv (.t 8)⟩,
             ⟨(some 33), none, .bin .add (.t 32) (.c (.i .i64 1))⟩,
             ⟨(some 8), none, .mv (.t 33)⟩]))))))
      (.seq
       (.reg [
         ⟨(some 106), none, .call law52_awake []⟩,
         ⟨(some 4), none, .mv (.t 106)⟩])
       .ret))))))
def law52_JournalSurvives.r : List Rr := [.tmp 4]
abbrev law52_JournalSurvives.n : Nat := 107

end Go.Abs

