/- The code of functions of the program, the functions that they call left open. -/
import Derived.Test.YtlmjnmmppffhaaaGoTp
set_option linter.unusedVariables false
set_option linter.unusedSimpArgs false
namespace Go.Abs

def slices_Sort_int_int.c (bits_Len slices_pdqsortOrdered_int : FuncId) : C :=
 (.seq
  (.reg [
    ⟨(some 3), none, .mv (.t 0)⟩,
    ⟨(some 4), none, .len 0 (.t 3)⟩,
    ⟨(some 2), none, .mv (.t 4)⟩])
  (.reg [
    ⟨(some 5), none, .mv (.t 0)⟩,
    ⟨(some 6), none, .mv (.t 2)⟩,
    ⟨(some 7), none, .mv (.t 2)⟩,
    ⟨(some 8), none, .cvi .u64 (.t 7)⟩,
    ⟨(some 9), none, .call bits_Len [(.t 8)]⟩,
    ⟨(some 10), none, .call slices_pdqsortOrdered_int [(.t 5), (.c (.i .i64 0)), (.t 6), (.t 9)]⟩]))
def slices_Sort_int_int.r : List Rr := []
abbrev slices_Sort_int_int.n : Nat := 11
def slices_pdqsortOrdered_int.c (slices_insertionSortOrdered_int slices_heapSortOrdered_int slices_breakPatternsOrdered_int slices_choosePivotOrdered_int slices_reverseRangeOrdered_int slices_partialInsertionSortOrdered_int cmp_Less_int slices_partitionEqualOrdered_int slices_partitionOrdered_int slices_pdqsortOrdered_int : FuncId) : C :=
 (.seq
  (.reg [
    ⟨(some 8), none, .mv (.c (.b true))⟩])
  (.seq
   (.reg [
     ⟨(some 9), none, .mv (.c (.b true))⟩])
   (.blk 0
    (.loop
     (.blk 1
      (.seq
       (.reg [
         ⟨(some 19), none, .mv (.t 2)⟩,
         ⟨(some 20), none, .mv (.t 1)⟩,
         ⟨(some 21), none, .bin .sub (.t 19) (.t 20)⟩,
         ⟨(some 10), none, .mv (.t 21)⟩])
       (.seq
        (.seq
         (.reg [
           ⟨(some 22), none, .mv (.t 10)⟩,
           ⟨(some 23), none, .bin .leq (.t 22) (.c (.i .i64 12))⟩])
         (.ite (.t 23)
          (.seq
           (.reg [
             ⟨(some 24), none, .mv (.t 0)⟩,
             ⟨(some 25), none, .mv (.t 1)⟩,
             ⟨(some 26), none, .mv (.t 2)⟩,
             ⟨(some 27), none, .call slices_insertionSortOrdered_int [(.t 24), (.t 25), (.t 26)]⟩])
           .ret)
          .skip))
        (.seq
         (.seq
          (.reg [
            ⟨(some 28), none, .mv (.t 3)⟩,
            ⟨(some 29), none, .bin .eql (.t 28) (.c (.i .i64 0))⟩])
          (.ite (.t 29)
           (.seq
            (.reg [
              ⟨(some 30), none, .mv (.t 0)⟩,
              ⟨(some 31), none, .mv (.t 1)⟩,
              ⟨(some 32), none, .mv (.t 2)⟩,
              ⟨(some 33), none, .call slices_heapSortOrdered_int [(.t 30), (.t 31), (.t 32)]⟩])
            .ret)
           .skip))
         (.seq
          (.seq
           (.reg [
             ⟨(some 34), none, .mv (.t 8)⟩,
             ⟨(some 35), none, .un .not (.t 34)⟩])
           (.ite (.t 35)
            (.seq
             (.reg [
               ⟨(some 36), none, .mv (.t 0)⟩,
               ⟨(some 37), none, .mv (.t 1)⟩,
               ⟨(some 38), none, .mv (.t 2)⟩,
               ⟨(some 39), none, .call slices_breakPatternsOrdered_int [(.t 36), (.t 37), (.t 38)]⟩])
             (.reg [
               ⟨(some 40), none, .mv (.t 3)⟩,
               ⟨(some 41), none, .bin .sub (.t 40) (.c (.i .i64 1))⟩,
               ⟨(some 3), none, .mv (.t 41)⟩]))
            .skip))
          (.seq
           (.reg [
             ⟨(some 43), none, .mv (.t 0)⟩,
             ⟨(some 44), none, .mv (.t 1)⟩,
             ⟨(some 45), none, .mv (.t 2)⟩,
             ⟨(some 46), none, .call slices_choosePivotOrdered_int [(.t 43), (.t 44), (.t 45)]⟩,
             ⟨(some 42), none, .mv (.t 46)⟩,
             ⟨(some 47), none, .ext (.t 42) 0⟩,
             ⟨(some 48), none, .ext (.t 42) 1⟩,
             ⟨(some 11), none, .mv (.t 47)⟩,
             ⟨(some 12), none, .mv (.t 48)⟩])
           (.seq
            (.seq
             (.reg [
               ⟨(some 49), none, .mv (.t 12)⟩,
               ⟨(some 50), none, .bin .eql (.t 49) (.c (.i .i64 2))⟩])
             (.ite (.t 50)
              (.seq
               (.reg [
                 ⟨(some 51), none, .mv (.t 0)⟩,
                 ⟨(some 52), none, .mv (.t 1)⟩,
                 ⟨(some 53), none, .mv (.t 2)⟩,
                 ⟨(some 54), none, .call slices_reverseRangeOrdered_int [(.t 51), (.t 52), (.t 53)]⟩])
               (.seq
                (.reg [
                  ⟨(some 55), none, .mv (.t 2)⟩,
                  ⟨(some 56), none, .bin .sub (.t 55) (.c (.i .i64 1))⟩,
                  ⟨(some 57), none, .mv (.t 11)⟩,
                  ⟨(some 58), none, .mv (.t 1)⟩,
                  ⟨(some 59), none, .bin .sub (.t 57) (.t 58)⟩,
                  ⟨(some 60), none, .bin .sub (.t 56) (.t 59)⟩,
                  ⟨(some 11), none, .mv (.t 60)⟩])
                (.reg [
                  ⟨(some 12), none, .mv (.c (.i .i64 1))⟩])))
              .skip))
            (.seq
             (.seq
              (.reg [
                ⟨(some 61), none, .mv (.t 8)⟩,
                ⟨(some 62), none, .mv (.t 61)⟩,
                ⟨(some 63), (some (62, true)), .mv (.t 9)⟩,
                ⟨(some 64), none, .pick (.t 62) (.t 63) (.c (.b false))⟩,
                ⟨(some 65), none, .mv (.t 64)⟩,
                ⟨(some 66), (some (65, true)), .mv (.t 12)⟩,
                ⟨(some 67), (some (65, true)), .bin .eql (.t 66) (.c (.i .i64 1))⟩,
                ⟨(some 68), none, .pick (.t 65) (.t 67) (.c (.b false))⟩])
              (.ite (.t 68)
               (.seq
                (.reg [
                  ⟨(some 69), none, .mv (.t 0)⟩,
                  ⟨(some 70), none, .mv (.t 1)⟩,
                  ⟨(some 71), none, .mv (.t 2)⟩,
                  ⟨(some 72), none, .call slices_partialInsertionSortOrdered_int [(.t 69), (.t 70), (.t 71)]⟩])
                (.ite (.t 72)
                 .ret
                 .skip))
               .skip))
             (.seq
              (.seq
               (.drw [
                 ⟨(some 73), none, .mv (.t 1)⟩,
                 ⟨(some 74), none, .bin .gtr (.t 73) (.c (.i .i64 0))⟩,
                 ⟨(some 75), none, .mv (.t 74)⟩,
                 ⟨(some 76), (some (75, true)), .mv (.t 0)⟩,
                 ⟨(some 77), (some (75, true)), .mv (.t 1)⟩,
                 ⟨(some 78), (some (75, true)), .bin .sub (.t 77) (.c (.i .i64 1))⟩,
                 ⟨(some 79), (some (75, true)), .ia 1 (.t 76) (.t 78)⟩,
                 ⟨(some 80), (some (75, true)), .ld none (.t 79)⟩,
                 ⟨(some 81), (some (75, true)), .mv (.t 0)⟩,
                 ⟨(some 82), (some (75, true)), .mv (.t 11)⟩,
                 ⟨(some 83), (some (75, true)), .ia 1 (.t 81) (.t 82)⟩,
                 ⟨(some 84), (some (75, true)), .ld none (.t 83)⟩,
                 ⟨(some 85), (some (75, true)), .call cmp_Less_int [(.t 80), (.t 84)]⟩,
                 ⟨(some 86), (some (75, true)), .un .not (.t 85)⟩,
                 ⟨(some 87), none, .pick (.t 75) (.t 86) (.c (.b false))⟩] [])
               (.ite (.t 87)
                (.seq
                 (.reg [
                   ⟨(some 88), none, .mv (.t 0)⟩,
                   ⟨(some 89), none, .mv (.t 1)⟩,
                   ⟨(some 90), none, .mv (.t 2)⟩,
                   ⟨(some 91), none, .mv (.t 11)⟩,
                   ⟨(some 92), none, .call slices_partitionEqualOrdered_int [(.t 88), (.t 89), (.t 90), (.t 91)]⟩,
                   ⟨(some 13), none, .mv (.t 92)⟩])
                 (.seq
                  (.reg [
                    ⟨(some 93), none, .mv (.t 13)⟩,
                    ⟨(some 1), none, .mv (.t 93)⟩])
                  (.exit 1)))
                .skip))
              (.seq
               (.reg [
                 ⟨(some 95), none, .mv (.t 0)⟩,
                 ⟨(some 96), none, .mv (.t 1)⟩,
                 ⟨(some 97), none, .mv (.t 2)⟩,
                 ⟨(some 98), none, .mv (.t 11)⟩,
                 ⟨(some 99), none, .call slices_partitionOrdered_int [(.t 95), (.t 96), (.t 97), (.t 98)]⟩,
                 ⟨(some 94), none, .mv (.t 99)⟩,
                 ⟨(some 100), none, .ext (.t 94) 0⟩,
                 ⟨(some 101), none, .ext (.t 94) 1⟩,
                 ⟨(some 14), none, .mv (.t 100)⟩,
                 ⟨(some 15), none, .mv (.t 101)⟩])
               (.seq
                (.reg [
                  ⟨(some 102), none, .mv (.t 15)⟩,
                  ⟨(some 9), none, .mv (.t 102)⟩])
                (.seq
                 (.reg [
                   ⟨(some 103), none, .mv (.t 14)⟩,
                   ⟨(some 104), none, .mv (.t 1)⟩,
                   ⟨(some 105), none, .bin .sub (.t 103) (.t 104)⟩,
                   ⟨(some 106), none, .mv (.t 2)⟩,
                   ⟨(some 107), none, .mv (.t 14)⟩,
                   ⟨(some 108), none, .bin .sub (.t 106) (.t 107)⟩,
                   ⟨(some 16), none, .mv (.t 105)⟩,
                   ⟨(some 17), none, .mv (.t 108)⟩])
                 (.seq
                  (.reg [
                    ⟨(some 109), none, .mv (.t 10)⟩,
                    ⟨(some 110), none, .bin .quo (.t 109) (.c (.i .i64 8))⟩,
                    ⟨(some 18), none, .mv (.t 110)⟩])
                  (.seq
                   (.reg [
                     ⟨(some 111), none, .mv (.t 16)⟩,
                     ⟨(some 112), none, .mv (.t 17)⟩,
                     ⟨(some 113), none, .bin .lss (.t 111) (.t 112)⟩])
                   (.ite (.t 113)
                    (.seq
                     (.reg [
                       ⟨(some 114), none, .mv (.t 16)⟩,
                       ⟨(some 115), none, .mv (.t 18)⟩,
                       ⟨(some 116), none, .bin .geq (.t 114) (.t 115)⟩,
                       ⟨(some 8), none, .mv (.t 116)⟩])
                     (.seq
                      (.reg [
                        ⟨(some 117), none, .mv (.t 0)⟩,
                        ⟨(some 118), none, .mv (.t 1)⟩,
                        ⟨(some 119), none, .mv (.t 14)⟩,
                        ⟨(some 120), none, .mv (.t 3)⟩,
                        ⟨(some 121), none, .call slices_pdqsortOrdered_int [(.t 117), (.t 118), (.t 119), (.t 120)]⟩])
                      (.reg [
                        ⟨(some 122), none, .mv (.t 14)⟩,
                        ⟨(some 123), none, .bin .add (.t 122) (.c (.i .i64 1))⟩,
                        ⟨(some 1), none, .mv (.t 123)⟩])))
                    (.seq
                     (.reg [
                       ⟨(some 124), none, .mv (.t 17)⟩,
                       ⟨(some 125), none, .mv (.t 18)⟩,
                       ⟨(some 126), none, .bin .geq (.t 124) (.t 125)⟩,
                       ⟨(some 8), none, .mv (.t 126)⟩])
                     (.seq
                      (.reg [
                        ⟨(some 127), none, .mv (.t 0)⟩,
                        ⟨(some 128), none, .mv (.t 14)⟩,
                        ⟨(some 129), none, .bin .add (.t 128) (.c (.i .i64 1))⟩,
                        ⟨(some 130), none, .mv (.t 2)⟩,
                        ⟨(some 131), none, .mv (.t 3)⟩,
                        ⟨(some 132), none, .call slices_pdqsortOrdered_int [(.t 127), (.t 129), (.t 130), (.t 131)]⟩])
                      (.reg [
                        ⟨(some 133), none, .mv (.t 14)⟩,
                        ⟨(some 2), none, .mv (.t 133)⟩]))))))))))))))))))))))
def slices_pdqsortOrdered_int.r : List Rr := []
abbrev slices_pdqsortOrdered_int.n : Nat := 134
def slices_insertionSortOrdered_int.c (cmp_Less_int : FuncId) : C :=
 (.seq
  (.reg [
    ⟨(some 8), none, .mv (.t 1)⟩,
    ⟨(some 9), none, .bin .add (.t 8) (.c (.i .i64 1))⟩,
    ⟨(some 6), none, .mv (.t 9)⟩])
  (.blk 0
   (.loop
    (.seq
     (.seq
      (.reg [
        ⟨(some 10), none, .mv (.t 6)⟩,
        ⟨(some 11), none, .mv (.t 2)⟩,
        ⟨(some 12), none, .bin .lss (.t 10) (.t 11)⟩])
      (.ite (.t 12)
       .skip
       (.exit 0)))
     (.seq
      (.blk 1
       (.seq
        (.reg [
          ⟨(some 15), none, .mv (.t 6)⟩,
          ⟨(some 7), none, .mv (.t 15)⟩])
        (.blk 2
         (.loop
          (.seq
           (.seq
            (.drw [
              ⟨(some 16), none, .mv (.t 7)⟩,
              ⟨(some 17), none, .mv (.t 1)⟩,
              ⟨(some 18), none, .bin .gtr (.t 16) (.t 17)⟩,
              ⟨(some 19), none, .mv (.t 18)⟩,
              ⟨(some 20), (some (19, true)), .mv (.t 0)⟩,
              ⟨(some 21), (some (19, true)), .mv (.t 7)⟩,
              ⟨(some 22), (some (19, true)), .ia 1 (.t 20) (.t 21)⟩,
              ⟨(some 23), (some (19, true)), .ld none (.t 22)⟩,
              ⟨(some 24), (some (19, true)), .mv (.t 0)⟩,
              ⟨(some 25), (some (19, true)), .mv (.t 7)⟩,
              ⟨(some 26), (some (19, true)), .bin .sub (.t 25) (.c (.i .i64 1))⟩,
              ⟨(some 27), (some (19, true)), .ia 1 (.t 24) (.t 26)⟩,
              ⟨(some 28), (some (19, true)), .ld none (.t 27)⟩,
              ⟨(some 29), (some (19, true)), .call cmp_Less_int [(.t 23), (.t 28)]⟩,
              ⟨(some 30), none, .pick (.t 19) (.t 29) (.c (.b false))⟩] [])
            (.ite (.t 30)
             .skip
             (.exit 2)))
           (.seq
            (.blk 3
             (.drw [
               ⟨(some 33), none, .mv (.t 0)⟩,
               ⟨(some 34), none, .mv (.t 7)⟩,
               ⟨(some 35), none, .mv (.t 0)⟩,
               ⟨(some 36), none, .mv (.t 7)⟩,
               ⟨(some 37), none, .bin .sub (.t 36) (.c (.i .i64 1))⟩,
               ⟨(some 38), none, .mv (.t 0)⟩,
               ⟨(some 39), none, .mv (.t 7)⟩,
               ⟨(some 40), none, .bin .sub (.t 39) (.c (.i .i64 1))⟩,
               ⟨(some 41), none, .ia 1 (.t 38) (.t 40)⟩,
               ⟨(some 42), none, .ld none (.t 41)⟩,
               ⟨(some 43), none, .mv (.t 0)⟩,
               ⟨(some 44), none, .mv (.t 7)⟩,
               ⟨(some 45), none, .ia 1 (.t 43) (.t 44)⟩,
               ⟨(some 46), none, .ld none (.t 45)⟩,
               ⟨(some 47), none, .ia 1 (.t 33) (.t 34)⟩,
               ⟨none, none, .st 1 (.t 47) (.t 42)⟩,
               ⟨(some 48), none, .ia 1 (.t 35) (.t 37)⟩,
               ⟨none, none, .st 1 (.t 48) (.t 46)⟩] []))
            (.reg [
              ⟨(some 31), none, .mv (.t 7)⟩,
              ⟨(some 32), none, .bin .sub (.t 31) (.c (.i .i64 1))⟩,
              ⟨(some 7), none, .mv (.t 32)⟩])))))))
      (.reg [
        ⟨(some 13), none, .mv (.t 6)⟩,
        ⟨(some 14), none, .bin .add (.t 13) (.c (.i .i64 1))⟩,
        ⟨(some 6), none, .mv (.t 14)⟩]))))))
def slices_insertionSortOrdered_int.r : List Rr := []
abbrev slices_insertionSortOrdered_int.n : Nat := 49
def bits_Len.c (bits_Len32 bits_Len64 : FuncId) : C :=
 (.seq
  (.reg [
    ⟨(some 2), none, .mv (.c (.i .i64 0))⟩])
  (.seq
   (.ite (.c (.b false))
    (.seq
     (.reg [
       ⟨(some 3), none, .mv (.t 0)⟩,
       ⟨(some 4), none, .cvi .u32 (.t 3)⟩,
       ⟨(some 5), none, .call bits_Len32 [(.t 4)]⟩,
       ⟨(some 2), none, .mv (.t 5)⟩])
     .ret)
    .skip)
   (.seq
    (.reg [
      ⟨(some 6), none, .mv (.t 0)⟩,
      ⟨(some 7), none, .call bits_Len64 [(.t 6)]⟩,
      ⟨(some 2), none, .mv (.t 7)⟩])
    .ret)))
def bits_Len.r : List Rr := [.tmp 2]
abbrev bits_Len.n : Nat := 8
def bits_Len64.c : C :=
 (.seq
  (.reg [
    ⟨(some 2), none, .mv (.c (.i .i64 0))⟩])
  (.seq
   (.seq
    (.reg [
      ⟨(some 3), none, .mv (.t 0)⟩,
      ⟨(some 4), none, .bin .geq (.t 3) (.c (.i .u64 4294967296))⟩])
    (.ite (.t 4)
     (.seq
      (.reg [
        ⟨(some 5), none, .mv (.t 0)⟩,
        ⟨(some 6), none, .bin .shr (.t 5) (.c (.i .u64 32))⟩,
        ⟨(some 0), none, .mv (.t 6)⟩])
      (.reg [
        ⟨(some 2), none, .mv (.c (.i .i64 32))⟩]))
     .skip))
   (.seq
    (.seq
     (.reg [
       ⟨(some 7), none, .mv (.t 0)⟩,
       ⟨(some 8), none, .bin .geq (.t 7) (.c (.i .u64 65536))⟩])
     (.ite (.t 8)
      (.seq
       (.reg [
         ⟨(some 9), none, .mv (.t 0)⟩,
         ⟨(some 10), none, .bin .shr (.t 9) (.c (.i .u64 16))⟩,
         ⟨(some 0), none, .mv (.t 10)⟩])
       (.reg [
         ⟨(some 11), none, .mv (.t 2)⟩,
         ⟨(some 12), none, .bin .add (.t 11) (.c (.i .i64 16))⟩,
         ⟨(some 2), none, .mv (.t 12)⟩]))
      .skip))
    (.seq
     (.seq
      (.reg [
        ⟨(some 13), none, .mv (.t 0)⟩,
        ⟨(some 14), none, .bin .geq (.t 13) (.c (.i .u64 256))⟩])
      (.ite (.t 14)
       (.seq
        (.reg [
          ⟨(some 15), none, .mv (.t 0)⟩,
          ⟨(some 16), none, .bin .shr (.t 15) (.c (.i .u64 8))⟩,
          ⟨(some 0), none, .mv (.t 16)⟩])
        (.reg [
          ⟨(some 17), none, .mv (.t 2)⟩,
          ⟨(some 18), none, .bin .add (.t 17) (.c (.i .i64 8))⟩,
          ⟨(some 2), none, .mv (.t 18)⟩]))
       .skip))
     (.seq
      (.reg [
        ⟨(some 19), none, .mv (.t 2)⟩,
        ⟨(some 20), none, .mv (.t 0)⟩,
        ⟨(some 21), none, .cvi .u8 (.t 20)⟩,
        ⟨(some 22), none, .ixs (.c (.s [0, 1, 2, 2, 3, 3, 3, 3, 4, 4, 4, 4, 4, 4, 4, 4, 5, 5, 5, 5, 5, 5, 5, 5, 5, 5, 5, 5, 5, 5, 5, 5, 6, 6, 6, 6, 6, 6, 6, 6, 6, 6, 6, 6, 6, 6, 6, 6, 6, 6, 6, 6, 6, 6, 6, 6, 6, 6, 6, 6, 6, 6, 6, 6, 7, 7, 7, 7, 7, 7, 7, 7, 7, 7, 7, 7, 7, 7, 7, 7, 7, 7, 7, 7, 7, 7, 7, 7, 7, 7, 7, 7, 7, 7, 7, 7, 7, 7, 7, 7, 7, 7, 7, 7, 7, 7, 7, 7, 7, 7, 7, 7, 7, 7, 7, 7, 7, 7, 7, 7, 7, 7, 7, 7, 7, 7, 7, 7, 8, 8, 8, 8, 8, 8, 8, 8, 8, 8, 8, 8, 8, 8, 8, 8, 8, 8, 8, 8, 8, 8, 8, 8, 8, 8, 8, 8, 8, 8, 8, 8, 8, 8, 8, 8, 8, 8, 8, 8, 8, 8, 8, 8, 8, 8, 8, 8, 8, 8, 8, 8, 8, 8, 8, 8, 8, 8, 8, 8, 8, 8, 8, 8, 8, 8, 8, 8, 8, 8, 8, 8, 8, 8, 8, 8, 8, 8, 8, 8, 8, 8, 8, 8, 8, 8, 8, 8, 8, 8, 8, 8, 8, 8, 8, 8, 8, 8, 8, 8, 8, 8, 8, 8, 8, 8, 8, 8, 8, 8, 8, 8, 8, 8, 8, 8, 8, 8, 8, 8, 8, 8, 8, 8, 8, 8, 8, 8])) (.t 21)⟩,
        ⟨(some 23), none, .cvi .i64 (.t 22)⟩,
        ⟨(some 24), none, .bin .add (.t 19) (.t 23)⟩,
        ⟨(some 2), none, .mv (.t 24)⟩])
      .ret)))))
def bits_Len64.r : List Rr := [.tmp 2]
abbrev bits_Len64.n : Nat := 25

end Go.Abs

