/- The code of functions of the program, the functions that they call left open. -/
import Derived.Test.YtedcbjgnidjidaaAbsZF
set_option linter.unusedVariables false
set_option linter.unusedSimpArgs false
namespace Go.Abs

def wire_valid.c : C :=
 (.seq
  (.reg [
    ⟨(some 2), none, .mv (.c (.b false))⟩])
  (.seq
   (.reg [
     ⟨(some 3), none, .mv (.t 0)⟩,
     ⟨(some 4), none, .bin .geq (.t 3) (.c (.i .i64 1))⟩,
     ⟨(some 5), none, .mv (.t 4)⟩,
     ⟨(some 6), (some (5, true)), .mv (.t 0)⟩,
     ⟨(some 7), (some (5, true)), .bin .leq (.t 6) (.c (.i .i64 8))⟩,
     ⟨(some 8), none, .pick (.t 5) (.t 7) (.c (.b false))⟩,
     ⟨(some 2), none, .mv (.t 8)⟩])
   .ret))
def wire_valid.r : List Rr := [.tmp 2]
abbrev wire_valid.n : Nat := 9
def wire_fits.c : C :=
 (.seq
  (.reg [
    ⟨(some 4), none, .mv (.c (.b false))⟩])
  (.seq
   (.reg [
     ⟨(some 5), none, .mv (.t 1)⟩,
     ⟨(some 6), none, .bin .eql (.t 5) (.c (.i .i64 8))⟩,
     ⟨(some 7), none, .mv (.t 6)⟩,
     ⟨(some 8), (some (7, false)), .mv (.t 0)⟩,
     ⟨(some 9), (some (7, false)), .mv (.t 1)⟩,
     ⟨(some 10), (some (7, false)), .bin .mul (.c (.i .i64 8)) (.t 9)⟩,
     ⟨(some 11), (some (7, false)), .bin .shl (.c (.i .u64 1)) (.t 10)⟩,
     ⟨(some 12), (some (7, false)), .bin .lss (.t 8) (.t 11)⟩,
     ⟨(some 13), none, .pick (.t 7) (.c (.b true)) (.t 12)⟩,
     ⟨(some 4), none, .mv (.t 13)⟩])
   .ret))
def wire_fits.r : List Rr := [.tmp 4]
abbrev wire_fits.n : Nat := 14
def wire_put.c : C :=
 (.seq
  (.reg [
    ⟨(some 6), none, .mv (.c .nil)⟩])
  (.seq
   (.reg [
     ⟨(some 9), none, .mv (.t 0)⟩,
     ⟨(some 10), none, .mv (.t 0)⟩,
     ⟨(some 11), none, .len 0 (.t 10)⟩,
     ⟨(some 12), none, .mv (.t 0)⟩,
     ⟨(some 13), none, .len 0 (.t 12)⟩,
     ⟨(some 14), none, .slc3 1 (.t 9) none (some (.t 11)) (.t 13)⟩,
     ⟨(some 7), none, .mv (.t 14)⟩])
   (.seq
    (.seq
     (.reg [
       ⟨(some 15), none, .mv (.t 2)⟩,
       ⟨(some 16), none, .bin .sub (.t 15) (.c (.i .i64 1))⟩,
       ⟨(some 8), none, .mv (.t 16)⟩])
     (.blk 0
      (.loop
       (.seq
        (.seq
         (.reg [
           ⟨(some 17), none, .mv (.t 8)⟩,
           ⟨(some 18), none, .bin .geq (.t 17) (.c (.i .i64 0))⟩])
         (.ite (.t 18)
          .skip
          (.exit 0)))
        (.seq
         (.blk 1
          (.reg [
            ⟨(some 21), none, .mv (.t 7)⟩,
            ⟨(some 22), none, .mv (.t 1)⟩,
            ⟨(some 23), none, .mv (.t 8)⟩,
            ⟨(some 24), none, .bin .mul (.c (.i .i64 8)) (.t 23)⟩,
            ⟨(some 25), none, .bin .shr (.t 22) (.t 24)⟩,
            ⟨(some 26), none, .cvi .u8 (.t 25)⟩,
            ⟨(some 27), none, .bsi 1 1 [(.i .u8 0)] [(0, (.t 26))]⟩,
            ⟨(some 28), none, .app 1 1 (.t 21) (.t 27)⟩,
            ⟨(some 7), none, .mv (.t 28)⟩]))
         (.reg [
           ⟨(some 19), none, .mv (.t 8)⟩,
           ⟨(some 20), none, .bin .sub (.t 19) (.c (.i .i64 1))⟩,
           ⟨(some 8), none, .mv (.t 20)⟩]))))))
    (.seq
     (.reg [
       ⟨(some 29), none, .mv (.t 7)⟩,
       ⟨(some 6), none, .mv (.t 29)⟩])
     .ret))))
def wire_put.r : List Rr := [.tmp 6]
abbrev wire_put.n : Nat := 30
def wire_Uint.c (wire_valid wire_fits wire_put : FuncId) : C :=
 (.seq
  (.reg [
    ⟨(some 4), none, .mv (.c (.s []))⟩,
    ⟨(some 5), none, .mv (.c (.i .i64 0))⟩])
  (.seq
   (.blk 0
    (.seq
     (.reg [
       ⟨(some 7), none, .mv (.t 1)⟩,
       ⟨(some 8), none, .call wire_valid [(.t 7)]⟩,
       ⟨(some 9), none, .un .not (.t 8)⟩,
       ⟨(some 6), none, .mv (.t 9)⟩])
     (.ite (.t 6)
      (.seq
       (.reg [
         ⟨(some 4), none, .mv (.c (.s []))⟩,
         ⟨(some 5), none, .mv (.c (.i .i64 1))⟩])
       .ret)
      (.seq
       (.reg [
         ⟨(some 11), none, .mv (.t 0)⟩,
         ⟨(some 12), none, .bin .lss (.t 11) (.c (.i .i64 0))⟩,
         ⟨(some 13), none, .mv (.t 12)⟩,
         ⟨(some 14), (some (13, false)), .mv (.t 0)⟩,
         ⟨(some 15), (some (13, false)), .cvi .u64 (.t 14)⟩,
         ⟨(some 16), (some (13, false)), .mv (.t 1)⟩,
         ⟨(some 17), (some (13, false)), .call wire_fits [(.t 15), (.t 16)]⟩,
         ⟨(some 18), (some (13, false)), .un .not (.t 17)⟩,
         ⟨(some 19), none, .pick (.t 13) (.c (.b true)) (.t 18)⟩,
         ⟨(some 10), none, .mv (.t 19)⟩])
       (.ite (.t 10)
        (.seq
         (.reg [
           ⟨(some 4), none, .mv (.c (.s []))⟩,
           ⟨(some 5), none, .mv (.c (.i .i64 3))⟩])
         .ret)
        .skip)))))
   (.seq
    (.reg [
      ⟨(some 20), none, .mv (.t 0)⟩,
      ⟨(some 21), none, .cvi .u64 (.t 20)⟩,
      ⟨(some 22), none, .mv (.t 1)⟩,
      ⟨(some 23), none, .call wire_put [(.c .nil), (.t 21), (.t 22)]⟩,
      ⟨(some 24), none, .b2s (.t 23)⟩,
      ⟨(some 4), none, .mv (.t 24)⟩,
      ⟨(some 5), none, .mv (.c (.i .i64 0))⟩])
    .ret)))
def wire_Uint.r : List Rr := [.tmp 4, .tmp 5]
abbrev wire_Uint.n : Nat := 25
def wire_Int.c (wire_valid wire_put : FuncId) : C :=
 (.seq
  (.reg [
    ⟨(some 4), none, .mv (.c (.s []))⟩,
    ⟨(some 5), none, .mv (.c (.i .i64 0))⟩])
  (.seq
   (.seq
    (.reg [
      ⟨(some 7), none, .mv (.t 1)⟩,
      ⟨(some 8), none, .call wire_valid [(.t 7)]⟩,
      ⟨(some 9), none, .un .not (.t 8)⟩])
    (.ite (.t 9)
     (.seq
      (.reg [
        ⟨(some 4), none, .mv (.c (.s []))⟩,
        ⟨(some 5), none, .mv (.c (.i .i64 1))⟩])
      .ret)
     .skip))
   (.seq
    (.seq
     (.reg [
       ⟨(some 10), none, .mv (.t 1)⟩,
       ⟨(some 11), none, .bin .mul (.c (.i .i64 8)) (.t 10)⟩,
       ⟨(some 12), none, .bin .sub (.t 11) (.c (.i .i64 1))⟩,
       ⟨(some 13), none, .bin .shl (.c (.i .i64 1)) (.t 12)⟩,
       ⟨(some 6), none, .mv (.t 13)⟩])
     (.seq
      (.reg [
        ⟨(some 14), none, .mv (.t 1)⟩,
        ⟨(some 15), none, .bin .lss (.t 14) (.c (.i .i64 8))⟩,
        ⟨(some 16), none, .mv (.t 15)⟩,
        ⟨(some 17), (some (16, true)), .mv (.t 0)⟩,
        ⟨(some 18), (some (16, true)), .mv (.t 6)⟩,
        ⟨(some 19), (some (16, true)), .un .neg (.t 18)⟩,
        ⟨(some 20), (some (16, true)), .bin .lss (.t 17) (.t 19)⟩,
        ⟨(some 21), (some (16, true)), .mv (.t 20)⟩,
        ⟨(some 22), (some (21, false)), .mv (.t 0)⟩,
        ⟨(some 23), (some (21, false)), .mv (.t 6)⟩,
        ⟨(some 24), (some (21, false)), .bin .geq (.t 22) (.t 23)⟩,
        ⟨(some 25), (some (16, true)), .pick (.t 21) (.c (.b true)) (.t 24)⟩,
        ⟨(some 26), none, .pick (.t 16) (.t 25) (.c (.b false))⟩])
      (.ite (.t 26)
       (.seq
        (.reg [
          ⟨(some 4), none, .mv (.c (.s []))⟩,
          ⟨(some 5), none, .mv (.c (.i .i64 3))⟩])
        .ret)
       .skip)))
    (.seq
     (.reg [
       ⟨(some 27), none, .mv (.t 0)⟩,
       ⟨(some 28), none, .cvi .u64 (.t 27)⟩,
       ⟨(some 29), none, .mv (.t 1)⟩,
       ⟨(some 30), none, .call wire_put [(.c .nil), (.t 28), (.t 29)]⟩,
       ⟨(some 31), none, .b2s (.t 30)⟩,
       ⟨(some 4), none, .mv (.t 31)⟩,
       ⟨(some 5), none, .mv (.c (.i .i64 0))⟩])
     .ret))))
def wire_Int.r : List Rr := [.tmp 4, .tmp 5]
abbrev wire_Int.n : Nat := 32
def wire_Pad.c : C :=
 (.seq
  (.reg [
    ⟨(some 4), none, .mv (.c (.s []))⟩,
    ⟨(some 5), none, .mv (.c (.i .i64 0))⟩])
  (.seq
   (.blk 0
    (.seq
     (.reg [
       ⟨(some 8), none, .mv (.t 1)⟩,
       ⟨(some 9), none, .bin .lss (.t 8) (.c (.i .i64 0))⟩,
       ⟨(some 10), none, .mv (.t 9)⟩,
       ⟨(some 11), (some (10, false)), .mv (.t 1)⟩,
       ⟨(some 12), (some (10, false)), .bin .gtr (.t 11) (.c (.i .i64 65536))⟩,
       ⟨(some 13), none, .pick (.t 10) (.c (.b true)) (.t 12)⟩,
       ⟨(some 7), none, .mv (.t 13)⟩])
     (.ite (.t 7)
      (.seq
       (.reg [
         ⟨(some 4), none, .mv (.c (.s []))⟩,
         ⟨(some 5), none, .mv (.c (.i .i64 1))⟩])
       .ret)
      (.seq
       (.reg [
         ⟨(some 15), none, .mv (.t 0)⟩,
         ⟨(some 16), none, .len 1 (.t 15)⟩,
         ⟨(some 17), none, .mv (.t 1)⟩,
         ⟨(some 18), none, .bin .gtr (.t 16) (.t 17)⟩,
         ⟨(some 14), none, .mv (.t 18)⟩])
       (.ite (.t 14)
        (.seq
         (.reg [
           ⟨(some 4), none, .mv (.c (.s []))⟩,
           ⟨(some 5), none, .mv (.c (.i .i64 2))⟩])
         .ret)
        .skip)))))
   (.seq
    (.reg [
      ⟨(some 19), none, .mv (.t 0)⟩,
      ⟨(some 20), none, .s2b (.t 19)⟩,
      ⟨(some 6), none, .mv (.t 20)⟩])
    (.seq
     (.reg [
       ⟨(some 21), none, .mv (.t 6)⟩,
       ⟨(some 22), none, .mv (.t 6)⟩,
       ⟨(some 23), none, .len 0 (.t 22)⟩,
       ⟨(some 24), none, .mv (.t 6)⟩,
       ⟨(some 25), none, .len 0 (.t 24)⟩,
       ⟨(some 26), none, .slc3 1 (.t 21) none (some (.t 23)) (.t 25)⟩,
       ⟨(some 27), none, .mv (.t 1)⟩,
       ⟨(some 28), none, .mv (.t 6)⟩,
       ⟨(some 29), none, .len 0 (.t 28)⟩,
       ⟨(some 30), none, .bin .sub (.t 27) (.t 29)⟩,
       ⟨(some 31), none, .apz 1 1 [(.i .u8 0)] (.t 26) (.t 30)⟩,
       ⟨(some 32), none, .b2s (.t 31)⟩,
       ⟨(some 4), none, .mv (.t 32)⟩,
       ⟨(some 5), none, .mv (.c (.i .i64 0))⟩])
     .ret))))
def wire_Pad.r : List Rr := [.tmp 4, .tmp 5]
abbrev wire_Pad.n : Nat := 33
def sum_CRC16.c : C :=
 (.seq
  (.reg [
    ⟨(some 2), none, .mv (.c (.i .i64 0))⟩])
  (.seq
   (.reg [
     ⟨(some 3), none, .mv (.c (.i .u16 65535))⟩])
   (.seq
    (.seq
     (.reg [
       ⟨(some 6), none, .mv (.t 0)⟩,
       ⟨(some 7), none, .len 1 (.t 6)⟩,
       ⟨(some 8), none, .mv (.c (.i .i64 0))⟩])
     (.blk 0
      (.loop
       (.seq
        (.reg [
          ⟨(some 9), none, .bin .lss (.t 8) (.t 7)⟩])
        (.seq
         (.ite (.t 9)
          .skip
          (.exit 0))
         (.seq
          (.blk 1
           (.seq
            (.reg [
              ⟨(some 10), none, .mv (.t 8)⟩,
              ⟨(some 4), none, .mv (.t 10)⟩])
            (.seq
             (.reg [
               ⟨(some 11), none, .mv (.t 3)⟩,
               ⟨(some 12), none, .mv (.t 0)⟩,
               ⟨(some 13), none, .mv (.t 4)⟩,
               ⟨(some 14), none, .ixs (.t 12) (.t 13)⟩,
               ⟨(some 15), none, .cvi .u16 (.t 14)⟩,
               ⟨(some 16), none, .bin .shl (.t 15) (.c (.i .u64 8))⟩,
               ⟨(some 17), none, .bin .xor (.t 11) (.t 16)⟩,
               ⟨(some 3), none, .mv (.t 17)⟩])
             (.seq
              (.reg [
                ⟨(some 18), none, .mv (.c (.i .i64 0))⟩])
              (.blk 2
               (.loop
                (.seq
                 (.reg [
                   ⟨(some 19), none, .bin .lss (.t 18) (.c (.i .i64 8))⟩])
                 (.seq
                  (.ite (.t 19)
                   .skip
                   (.exit 2))
                  (.seq
                   (.blk 3
                    (.seq
                     (.reg [
                       ⟨(some 20), none, .mv (.t 3)⟩,
                       ⟨(some 21), none, .bin .and (.t 20) (.c (.i .u16 32768))⟩,
                       ⟨(some 22), none, .bin .neq (.t 21) (.c (.i .u16 0))⟩,
                       ⟨(some 5), none, .mv (.t 22)⟩])
                     (.seq
                      (.reg [
                        ⟨(some 23), none, .mv (.t 3)⟩,
                        ⟨(some 24), none, .bin .shl (.t 23) (.c (.i .u64 1))⟩,
                        ⟨(some 3), none, .mv (.t 24)⟩])
                      (.seq
                       (.reg [
                         ⟨(some 25), none, .mv (.t 5)⟩])
                       (.ite (.t 25)
                        (.reg [
                          ⟨(some 26), none, .mv (.t 3)⟩,
                          ⟨(some 27), none, .bin .xor (.t 26) (.c (.i .u16 4129))⟩,
                          ⟨(some 3), none, .mv (.t 27)⟩])
                        .skip)))))
                   (.reg [
                     ⟨(some 28), none, .bin .add (.t 18) (.c (.i .i64 1))⟩,
                     ⟨(some 18), none, .mv (.t 28)⟩]))))))))))
          (.reg [
            ⟨(some 29), none, .bin .add (.t 8) (.c (.i .i64 1))⟩,
            ⟨(some 8), none, .mv (.t 29)⟩])))))))
    (.seq
     (.reg [
       ⟨(some 30), none, .mv (.t 3)⟩,
       ⟨(some 31), none, .cvi .i64 (.t 30)⟩,
       ⟨(some 2), none, .mv (.t 31)⟩])
     .ret))))
def sum_CRC16.r : List Rr := [.tmp 2]
abbrev sum_CRC16.n : Nat := 32
def ref02_fits.c : C :=
 (.seq
  (.reg [
    ⟨(some 2), none, .mv (.c (.b false))⟩])
  (.seq
   (.reg [
     ⟨(some 3), none, .mv (.t 0)⟩,
     ⟨(some 4), none, .bin .geq (.t 3) (.c (.i .i64 1))⟩,
     ⟨(some 5), none, .mv (.t 4)⟩,
     ⟨(some 6), (some (5, true)), .mv (.t 0)⟩,
     ⟨(some 7), (some (5, true)), .bin .leq (.t 6) (.c (.i .i64 8))⟩,
     ⟨(some 8), none, .pick (.t 5) (.t 7) (.c (.b false))⟩,
     ⟨(some 2), none, .mv (.t 8)⟩])
   .ret))
def ref02_fits.r : List Rr := [.tmp 2]
abbrev ref02_fits.n : Nat := 9
def ref02_bytes.c : C :=
 (.seq
  (.reg [
    ⟨(some 4), none, .mv (.c (.s []))⟩])
  (.seq
   (.reg [
     ⟨(some 7), none, .mv (.t 1)⟩,
     ⟨(some 8), none, .mks 1 1 [(.i .u8 0)] (.t 7)⟩,
     ⟨(some 5), none, .mv (.t 8)⟩])
   (.seq
    (.seq
     (.reg [
       ⟨(some 9), none, .mv (.t 1)⟩,
       ⟨(some 10), none, .bin .sub (.t 9) (.c (.i .i64 1))⟩,
       ⟨(some 6), none, .mv (.t 10)⟩])
     (.blk 0
      (.loop
       (.seq
        (.seq
         (.reg [
           ⟨(some 11), none, .mv (.t 6)⟩,
           ⟨(some 12), none, .bin .geq (.t 11) (.c (.i .i64 0))⟩])
         (.ite (.t 12)
          .skip
          (.exit 0)))
        (.seq
         (.blk 1
          (.seq
           (.reg [
             ⟨(some 15), none, .mv (.t 5)⟩,
             ⟨(some 16), none, .mv (.t 6)⟩,
             ⟨(some 17), none, .mv (.t 0)⟩,
             ⟨(some 18), none, .bin .rem (.t 17) (.c (.i .u64 256))⟩,
             ⟨(some 19), none, .cvi .u8 (.t 18)⟩,
             ⟨(some 20), none, .ia 1 (.t 15) (.t 16)⟩,
             ⟨none, none, .st 1 (.t 20) (.t 19)⟩])
           (.reg [
             ⟨(some 21), none, .mv (.t 0)⟩,
             ⟨(some 22), none, .bin .quo (.t 21) (.c (.i .u64 256))⟩,
             ⟨(some 0), none, .mv (.t 22)⟩])))
         (.reg [
           ⟨(some 13), none, .mv (.t 6)⟩,
           ⟨(some 14), none, .bin .sub (.t 13) (.c (.i .i64 1))⟩,
           ⟨(some 6), none, .mv (.t 14)⟩]))))))
    (.seq
     (.reg [
       ⟨(some 23), none, .mv (.t 5)⟩,
       ⟨(some 24), none, .b2s (.t 23)⟩,
       ⟨(some 4), none, .mv (.t 24)⟩])
     .ret))))
def ref02_bytes.r : List Rr := [.tmp 4]
abbrev ref02_bytes.n : Nat := 25
def ref02_Uint.c (ref02_fits ref02_bytes : FuncId) : C :=
 (.seq
  (.reg [
    ⟨(some 4), none, .mv (.c (.s []))⟩,
    ⟨(some 5), none, .mv (.c (.i .i64 0))⟩])
  (.seq
   (.seq
    (.reg [
      ⟨(some 6), none, .mv (.t 1)⟩,
      ⟨(some 7), none, .call ref02_fits [(.t 6)]⟩,
      ⟨(some 8), none, .un .not (.t 7)⟩])
    (.ite (.t 8)
     (.seq
      (.reg [
        ⟨(some 4), none, .mv (.c (.s []))⟩,
        ⟨(some 5), none, .mv (.c (.i .i64 1))⟩])
      .ret)
     .skip))
   (.seq
    (.seq
     (.reg [
       ⟨(some 9), none, .mv (.t 0)⟩,
       ⟨(some 10), none, .bin .lss (.t 9) (.c (.i .i64 0))⟩,
       ⟨(some 11), none, .mv (.t 10)⟩,
       ⟨(some 12), (some (11, false)), .mv (.t 1)⟩,
       ⟨(some 13), (some (11, false)), .bin .lss (.t 12) (.c (.i .i64 8))⟩,
       ⟨(some 14), (some (11, false)), .mv (.t 13)⟩,
       ⟨(some 15), (some (14, true)), .mv (.t 0)⟩,
       ⟨(some 16), (some (14, true)), .mv (.t 1)⟩,
       ⟨(some 17), (some (14, true)), .bin .mul (.c (.i .i64 8)) (.t 16)⟩,
       ⟨(some 18), (some (14, true)), .cvi .u64 (.t 17)⟩,
       ⟨(some 19), (some (14, true)), .bin .shl (.c (.i .i64 1)) (.t 18)⟩,
       ⟨(some 20), (some (14, true)), .bin .geq (.t 15) (.t 19)⟩,
       ⟨(some 21), (some (11, false)), .pick (.t 14) (.t 20) (.c (.b false))⟩,
       ⟨(some 22), none, .pick (.t 11) (.c (.b true)) (.t 21)⟩])
     (.ite (.t 22)
      (.seq
       (.reg [
         ⟨(some 4), none, .mv (.c (.s []))⟩,
         ⟨(some 5), none, .mv (.c (.i .i64 3))⟩])
       .ret)
      .skip))
    (.seq
     (.reg [
       ⟨(some 23), none, .mv (.t 0)⟩,
       ⟨(some 24), none, .cvi .u64 (.t 23)⟩,
       ⟨(some 25), none, .mv (.t 1)⟩,
       ⟨(some 26), none, .call ref02_bytes [(.t 24), (.t 25)]⟩,
       ⟨(some 4), none, .mv (.t 26)⟩,
       ⟨(some 5), none, .mv (.c (.i .i64 0))⟩])
     .ret))))
def ref02_Uint.r : List Rr := [.tmp 4, .tmp 5]
abbrev ref02_Uint.n : Nat := 27
def ref02_Int.c (ref02_fits ref02_bytes : FuncId) : C :=
 (.seq
  (.reg [
    ⟨(some 4), none, .mv (.c (.s []))⟩,
    ⟨(some 5), none, .mv (.c (.i .i64 0))⟩])
  (.seq
   (.seq
    (.reg [
      ⟨(some 6), none, .mv (.t 1)⟩,
      ⟨(some 7), none, .call ref02_fits [(.t 6)]⟩,
      ⟨(some 8), none, .un .not (.t 7)⟩])
    (.ite (.t 8)
     (.seq
      (.reg [
        ⟨(some 4), none, .mv (.c (.s []))⟩,
        ⟨(some 5), none, .mv (.c (.i .i64 1))⟩])
      .ret)
     .skip))
   (.seq
    (.seq
     (.reg [
       ⟨(some 9), none, .mv (.t 1)⟩,
       ⟨(some 10), none, .bin .lss (.t 9) (.c (.i .i64 8))⟩,
       ⟨(some 11), none, .mv (.t 10)⟩,
       ⟨(some 12), (some (11, true)), .mv (.t 0)⟩,
       ⟨(some 13), (some (11, true)), .mv (.t 1)⟩,
       ⟨(some 14), (some (11, true)), .bin .mul (.c (.i .i64 8)) (.t 13)⟩,
       ⟨(some 15), (some (11, true)), .bin .sub (.t 14) (.c (.i .i64 1))⟩,
       ⟨(some 16), (some (11, true)), .cvi .u64 (.t 15)⟩,
       ⟨(some 17), (some (11, true)), .bin .shl (.c (.i .i64 1)) (.t 16)⟩,
       ⟨(some 18), (some (11, true)), .un .neg (.t 17)⟩,
       ⟨(some 19), (some (11, true)), .bin .lss (.t 12) (.t 18)⟩,
       ⟨(some 20), (some (11, true)), .mv (.t 19)⟩,
       ⟨(some 21), (some (20, false)), .mv (.t 0)⟩,
       ⟨(some 22), (some (20, false)), .mv (.t 1)⟩,
       ⟨(some 23), (some (20, false)), .bin .mul (.c (.i .i64 8)) (.t 22)⟩,
       ⟨(some 24), (some (20, false)), .bin .sub (.t 23) (.c (.i .i64 1))⟩,
       ⟨(some 25), (some (20, false)), .cvi .u64 (.t 24)⟩,
       ⟨(some 26), (some (20, false)), .bin .shl (.c (.i .i64 1)) (.t 25)⟩,
       ⟨(some 27), (some (20, false)), .bin .geq (.t 21) (.t 26)⟩,
       ⟨(some 28), (some (11, true)), .pick (.t 20) (.c (.b true)) (.t 27)⟩,
       ⟨(some 29), none, .pick (.t 11) (.t 28) (.c (.b false))⟩])
     (.ite (.t 29)
      (.seq
       (.reg [
         ⟨(some 4), none, .mv (.c (.s []))⟩,
         ⟨(some 5), none, .mv (.c (.i .i64 3))⟩])
       .ret)
      .skip))
    (.seq
     (.reg [
       ⟨(some 30), none, .mv (.t 0)⟩,
       ⟨(some 31), none, .cvi .u64 (.t 30)⟩,
       ⟨(some 32), none, .mv (.t 1)⟩,
       ⟨(some 33), none, .call ref02_bytes [(.t 31), (.t 32)]⟩,
       ⟨(some 4), none, .mv (.t 33)⟩,
       ⟨(some 5), none, .mv (.c (.i .i64 0))⟩])
     .ret))))
def ref02_Int.r : List Rr := [.tmp 4, .tmp 5]
abbrev ref02_Int.n : Nat := 34
def ref02_Pad.c : C :=
 (.seq
  (.reg [
    ⟨(some 4), none, .mv (.c (.s []))⟩,
    ⟨(some 5), none, .mv (.c (.i .i64 0))⟩])
  (.seq
   (.seq
    (.reg [
      ⟨(some 6), none, .mv (.t 1)⟩,
      ⟨(some 7), none, .bin .lss (.t 6) (.c (.i .i64 0))⟩,
      ⟨(some 8), none, .mv (.t 7)⟩,
      ⟨(some 9), (some (8, false)), .mv (.t 1)⟩,
      ⟨(some 10), (some (8, false)), .bin .gtr (.t 9) (.c (.i .i64 65536))⟩,
      ⟨(some 11), none, .pick (.t 8) (.c (.b true)) (.t 10)⟩])
    (.ite (.t 11)
     (.seq
      (.reg [
        ⟨(some 4), none, .mv (.c (.s []))⟩,
        ⟨(some 5), none, .mv (.c (.i .i64 1))⟩])
      .ret)
     .skip))
   (.seq
    (.seq
     (.reg [
       ⟨(some 12), none, .mv (.t 0)⟩,
       ⟨(some 13), none, .len 1 (.t 12)⟩,
       ⟨(some 14), none, .mv (.t 1)⟩,
       ⟨(some 15), none, .bin .gtr (.t 13) (.t 14)⟩])
     (.ite (.t 15)
      (.seq
       (.reg [
         ⟨(some 4), none, .mv (.c (.s []))⟩,
         ⟨(some 5), none, .mv (.c (.i .i64 2))⟩])
       .ret)
      .skip))
    (.seq
     (.reg [
       ⟨(some 16), none, .mv (.t 0)⟩,
       ⟨(some 17), none, .mv (.t 1)⟩,
       ⟨(some 18), none, .mv (.t 0)⟩,
       ⟨(some 19), none, .len 1 (.t 18)⟩,
       ⟨(some 20), none, .bin .sub (.t 17) (.t 19)⟩,
       ⟨(some 21), none, .mki 1 1 [(.i .u8 0)] (.t 20)⟩,
       ⟨(some 22), none, .b2s (.t 21)⟩,
       ⟨(some 23), none, .bin .add (.t 16) (.t 22)⟩,
       ⟨(some 4), none, .mv (.t 23)⟩,
       ⟨(some 5), none, .mv (.c (.i .i64 0))⟩])
     .ret))))
def ref02_Pad.r : List Rr := [.tmp 4, .tmp 5]
abbrev ref02_Pad.n : Nat := 24
def ref03_bit.c : C :=
 (.seq
  (.reg [
    ⟨(some 2), none, .mv (.c (.i .i64 0))⟩])
  (.seq
   (.seq
    (.reg [
      ⟨(some 3), none, .mv (.t 0)⟩,
      ⟨(some 4), none, .bin .geq (.t 3) (.c (.i .i64 32768))⟩])
    (.ite (.t 4)
     (.seq
      (.reg [
        ⟨(some 5), none, .mv (.t 0)⟩,
        ⟨(some 6), none, .bin .sub (.t 5) (.c (.i .i64 32768))⟩,
        ⟨(some 7), none, .bin .mul (.t 6) (.c (.i .i64 2))⟩,
        ⟨(some 8), none, .bin .xor (.t 7) (.c (.i .i64 4129))⟩,
        ⟨(some 2), none, .mv (.t 8)⟩])
      .ret)
     .skip))
   (.seq
    (.reg [
      ⟨(some 9), none, .mv (.t 0)⟩,
      ⟨(some 10), none, .bin .mul (.t 9) (.c (.i .i64 2))⟩,
      ⟨(some 2), none, .mv (.t 10)⟩])
    .ret)))
def ref03_bit.r : List Rr := [.tmp 2]
abbrev ref03_bit.n : Nat := 11
def ref03_CRC16.c (ref03_bit : FuncId) : C :=
 (.seq
  (.reg [
    ⟨(some 2), none, .mv (.c (.i .i64 0))⟩])
  (.seq
   (.reg [
     ⟨(some 3), none, .mv (.c (.i .i64 65535))⟩])
   (.seq
    (.seq
     (.reg [
       ⟨(some 4), none, .mv (.c (.i .i64 0))⟩])
     (.blk 0
      (.loop
       (.seq
        (.seq
         (.reg [
           ⟨(some 6), none, .mv (.t 4)⟩,
           ⟨(some 7), none, .mv (.t 0)⟩,
           ⟨(some 8), none, .len 1 (.t 7)⟩,
           ⟨(some 9), none, .bin .lss (.t 6) (.t 8)⟩])
         (.ite (.t 9)
          .skip
          (.exit 0)))
        (.seq
         (.blk 1
          (.seq
           (.reg [
             ⟨(some 12), none, .mv (.t 3)⟩,
             ⟨(some 13), none, .mv (.t 0)⟩,
             ⟨(some 14), none, .mv (.t 4)⟩,
             ⟨(some 15), none, .ixs (.t 13) (.t 14)⟩,
             ⟨(some 16), none, .cvi .i64 (.t 15)⟩,
             ⟨(some 17), none, .bin .mul (.t 16) (.c (.i .i64 256))⟩,
             ⟨(some 18), none, .bin .xor (.t 12) (.t 17)⟩,
             ⟨(some 3), none, .mv (.t 18)⟩])
           (.seq
            (.reg [
              ⟨(some 5), none, .mv (.c (.i .i64 0))⟩])
            (.blk 2
             (.loop
              (.seq
               (.seq
                (.reg [
                  ⟨(some 19), none, .mv (.t 5)⟩,
                  ⟨(some 20), none, .bin .lss (.t 19) (.c (.i .i64 8))⟩])
                (.ite (.t 20)
                 .skip
                 (.exit 2)))
               (.seq
                (.blk 3
                 (.reg [
                   ⟨(some 23), none, .mv (.t 3)⟩,
                   ⟨(some 24), none, .call ref03_bit [(.t 23)]⟩,
                   ⟨(some 3), none, .mv (.t 24)⟩]))
                (.reg [
                  ⟨(some 21), none, .mv (.t 5)⟩,
                  ⟨(some 22), none, .bin .add (.t 21) (.c (.i .i64 1))⟩,
                  ⟨(some 5), none, .mv (.t 22)⟩]))))))))
         (.reg [
           ⟨(some 10), none, .mv (.t 4)⟩,
           ⟨(some 11), none, .bin .add (.t 10) (.c (.i .i64 1))⟩,
           ⟨(some 4), none, .mv (.t 11)⟩]))))))
    (.seq
     (.reg [
       ⟨(some 25), none, .mv (.t 3)⟩,
       ⟨(some 2), none, .mv (.t 25)⟩])
     .ret))))
def ref03_CRC16.r : List Rr := [.tmp 2]
abbrev ref03_CRC16.n : Nat := 26
def ref52_small.c : C :=
 (.seq
  (.reg [
    ⟨(some 1), none, .box (.t 0)⟩,
    ⟨(some 2), none, .mv (.c (.b false))⟩])
  (.seq
   (.seq
    (.reg [
      ⟨(some 3), none, .mv (.c (.i .i64 0))⟩])
    (.blk 0
     (.loop
      (.seq
       (.seq
        (.reg [
          ⟨(some 4), none, .mv (.t 3)⟩,
          ⟨(some 5), none, .bin .lss (.t 4) (.c (.i .i64 4))⟩])
        (.ite (.t 5)
         .skip
         (.exit 0)))
       (.seq
        (.blk 1
         (.seq
          (.reg [
            ⟨(some 8), none, .mv (.t 3)⟩,
            ⟨(some 9), none, .iaa 4 1 (.t 1) (.t 8)⟩,
            ⟨(some 10), none, .ld none (.t 9)⟩,
            ⟨(some 11), none, .bin .lss (.t 10) (.c (.i .i64 (-2147483648)))⟩,
            ⟨(some 12), none, .mv (.t 11)⟩,
            ⟨(some 13), (some (12, false)), .mv (.t 3)⟩,
            ⟨(some 14), (some (12, false)), .iaa 4 1 (.t 1) (.t 13)⟩,
            ⟨(some 15), (some (12, false)), .ld none (.t 14)⟩,
            ⟨(some 16), (some (12, false)), .bin .geq (.t 15) (.c (.i .i64 2147483648))⟩,
            ⟨(some 17), none, .pick (.t 12) (.c (.b true)) (.t 16)⟩])
          (.ite (.t 17)
           (.seq
            (.reg [
              ⟨(some 2), none, .mv (.c (.b false))⟩])
            .ret)
           .skip)))
        (.reg [
          ⟨(some 6), none, .mv (.t 3)⟩,
          ⟨(some 7), none, .bin .add (.t 6) (.c (.i .i64 1))⟩,
          ⟨(some 3), none, .mv (.t 7)⟩]))))))
   (.seq
    (.reg [
      ⟨(some 2), none, .mv (.c (.b true))⟩])
    .ret)))
def ref52_small.r : List Rr := [.tmp 2]
abbrev ref52_small.n : Nat := 18
def ref52_Valid.c (ref52_small : FuncId) : C :=
 (.seq
  (.reg [
    ⟨(some 1), none, .box (.t 0)⟩,
    ⟨(some 2), none, .mv (.c (.b false))⟩])
  (.seq
   (.reg [
     ⟨(some 3), none, .fa 0 (.t 1)⟩,
     ⟨(some 4), none, .ld none (.t 3)⟩,
     ⟨(some 5), none, .bin .geq (.t 4) (.c (.i .i64 1))⟩,
     ⟨(some 6), none, .mv (.t 5)⟩,
     ⟨(some 7), (some (6, true)), .fa 0 (.t 1)⟩,
     ⟨(some 8), (some (6, true)), .ld none (.t 7)⟩,
     ⟨(some 9), (some (6, true)), .bin .leq (.t 8) (.c (.i .i64 3))⟩,
     ⟨(some 10), none, .pick (.t 6) (.t 9) (.c (.b false))⟩,
     ⟨(some 11), none, .mv (.t 10)⟩,
     ⟨(some 12), (some (11, true)), .fa 1 (.t 1)⟩,
     ⟨(some 13), (some (11, true)), .ld none (.t 12)⟩,
     ⟨(some 14), (some (11, true)), .bin .geq (.t 13) (.c (.i .i64 1))⟩,
     ⟨(some 15), none, .pick (.t 11) (.t 14) (.c (.b false))⟩,
     ⟨(some 16), none, .mv (.t 15)⟩,
     ⟨(some 17), (some (16, true)), .fa 1 (.t 1)⟩,
     ⟨(some 18), (some (16, true)), .ld none (.t 17)⟩,
     ⟨(some 19), (some (16, true)), .bin .leq (.t 18) (.c (.i .i64 1099511627776))⟩,
     ⟨(some 20), none, .pick (.t 16) (.t 19) (.c (.b false))⟩,
     ⟨(some 21), none, .mv (.t 20)⟩,
     ⟨(some 22), (some (21, true)), .fa 2 (.t 1)⟩,
     ⟨(some 23), (some (21, true)), .ld none (.t 22)⟩,
     ⟨(some 24), (some (21, true)), .bin .geq (.t 23) (.c (.i .i64 0))⟩,
     ⟨(some 25), none, .pick (.t 21) (.t 24) (.c (.b false))⟩,
     ⟨(some 26), none, .mv (.t 25)⟩,
     ⟨(some 27), (some (26, true)), .fa 2 (.t 1)⟩,
     ⟨(some 28), (some (26, true)), .ld none (.t 27)⟩,
     ⟨(some 29), (some (26, true)), .bin .leq (.t 28) (.c (.i .i64 1099511627776))⟩,
     ⟨(some 30), none, .pick (.t 26) (.t 29) (.c (.b false))⟩,
     ⟨(some 31), none, .mv (.t 30)⟩,
     ⟨(some 32), (some (31, true)), .fa 3 (.t 1)⟩,
     ⟨(some 33), (some (31, true)), .ld none (.t 32)⟩,
     ⟨(some 34), (some (31, true)), .bin .geq (.t 33) (.c (.i .i64 0))⟩,
     ⟨(some 35), none, .pick (.t 31) (.t 34) (.c (.b false))⟩,
     ⟨(some 36), none, .mv (.t 35)⟩,
     ⟨(some 37), (some (36, true)), .fa 3 (.t 1)⟩,
     ⟨(some 38), (some (36, true)), .ld none (.t 37)⟩,
     ⟨(some 39), (some (36, true)), .bin .leq (.t 38) (.c (.i .i64 16777216))⟩,
     ⟨(some 40), none, .pick (.t 36) (.t 39) (.c (.b false))⟩,
     ⟨(some 41), none, .mv (.t 40)⟩,
     ⟨(some 42), (some (41, true)), .fa 4 (.t 1)⟩,
     ⟨(some 43), (some (41, true)), .ld (some 4) (.t 42)⟩,
     ⟨(some 44), (some (41, true)), .call ref52_small [(.t 43)]⟩,
     ⟨(some 45), none, .pick (.t 41) (.t 44) (.c (.b false))⟩,
     ⟨(some 46), none, .mv (.t 45)⟩,
     ⟨(some 47), (some (46, true)), .fa 8 (.t 1)⟩,
     ⟨(some 48), (some (46, true)), .ld (some 4) (.t 47)⟩,
     ⟨(some 49), (some (46, true)), .call ref52_small [(.t 48)]⟩,
     ⟨(some 50), none, .pick (.t 46) (.t 49) (.c (.b false))⟩,
     ⟨(some 2), none, .mv (.t 50)⟩])
   .ret))
def ref52_Valid.r : List Rr := [.tmp 2]
abbrev ref52_Valid.n : Nat := 51
def ref52_unsigned.c (ref02_Uint : FuncId) : C :=
 (.seq
  (.reg [
    ⟨(some 4), none, .mv (.c (.s []))⟩])
  (.seq
   (.reg [
     ⟨(some 8), none, .mv (.t 0)⟩,
     ⟨(some 9), none, .mv (.t 1)⟩,
     ⟨(some 10), none, .call ref02_Uint [(.t 8), (.t 9)]⟩,
     ⟨(some 7), none, .mv (.t 10)⟩,
     ⟨(some 11), none, .ext (.t 7) 0⟩,
     ⟨(some 12), none, .ext (.t 7) 1⟩,
     ⟨(some 5), none, .mv (.t 11)⟩,
     ⟨(some 6), none, .mv (.t 12)⟩])
   (.seq
    (.reg [
      ⟨(some 13), none, .mv (.t 5)⟩,
      ⟨(some 4), none, .mv (.t 13)⟩])
    .ret)))
def ref52_unsigned.r : List Rr := [.tmp 4]
abbrev ref52_unsigned.n : Nat := 14
def ref52_positions.c (ref02_Int : FuncId) : C :=
 (.seq
  (.reg [
    ⟨(some 1), none, .box (.t 0)⟩,
    ⟨(some 2), none, .mv (.c (.s []))⟩])
  (.seq
   (.reg [
     ⟨(some 3), none, .mv (.c (.s []))⟩])
   (.seq
    (.seq
     (.reg [
       ⟨(some 4), none, .mv (.c (.i .i64 0))⟩])
     (.blk 0
      (.loop
       (.seq
        (.seq
         (.reg [
           ⟨(some 7), none, .mv (.t 4)⟩,
           ⟨(some 8), none, .bin .lss (.t 7) (.c (.i .i64 4))⟩])
         (.ite (.t 8)
          .skip
          (.exit 0)))
        (.seq
         (.blk 1
          (.seq
           (.reg [
             ⟨(some 12), none, .mv (.t 4)⟩,
             ⟨(some 13), none, .iaa 4 1 (.t 1) (.t 12)⟩,
             ⟨(some 14), none, .ld none (.t 13)⟩,
             ⟨(some 15), none, .call ref02_Int [(.t 14), (.c (.i .i64 4))]⟩,
             ⟨(some 11), none, .mv (.t 15)⟩,
             ⟨(some 16), none, .ext (.t 11) 0⟩,
             ⟨(some 17), none, .ext (.t 11) 1⟩,
             ⟨(some 5), none, .mv (.t 16)⟩,
             ⟨(some 6), none, .mv (.t 17)⟩])
           (.reg [
             ⟨(some 18), none, .mv (.t 3)⟩,
             ⟨(some 19), none, .mv (.t 5)⟩,
             ⟨(some 20), none, .bin .add (.t 18) (.t 19)⟩,
             ⟨(some 3), none, .mv (.t 20)⟩])))
         (.reg [
           ⟨(some 9), none, .mv (.t 4)⟩,
           ⟨(some 10), none, .bin .add (.t 9) (.c (.i .i64 1))⟩,
           ⟨(some 4), none, .mv (.t 10)⟩]))))))
    (.seq
     (.reg [
       ⟨(some 21), none, .mv (.t 3)⟩,
       ⟨(some 2), none, .mv (.t 21)⟩])
     .ret))))
def ref52_positions.r : List Rr := [.tmp 2]
abbrev ref52_positions.n : Nat := 22
def ref52_Encode.c (ref52_Valid ref52_unsigned ref52_positions ref03_CRC16 ref02_Pad : FuncId) : C :=
 (.seq
  (.reg [
    ⟨(some 1), none, .box (.t 0)⟩,
    ⟨(some 2), none, .mv (.c (.s []))⟩,
    ⟨(some 3), none, .mv (.c (.i .i64 0))⟩])
  (.seq
   (.seq
    (.reg [
      ⟨(some 5), none, .ld (some 12) (.t 1)⟩,
      ⟨(some 6), none, .call ref52_Valid [(.t 5)]⟩,
      ⟨(some 7), none, .un .not (.t 6)⟩])
    (.ite (.t 7)
     (.seq
      (.reg [
        ⟨(some 2), none, .mv (.c (.s []))⟩,
        ⟨(some 3), none, .mv (.c (.i .i64 1))⟩])
      .ret)
     .skip))
   (.seq
    (.drw [
      ⟨(some 8), none, .fa 1 (.t 1)⟩,
      ⟨(some 9), none, .ld none (.t 8)⟩,
      ⟨(some 10), none, .call ref52_unsigned [(.t 9), (.c (.i .i64 6))]⟩,
      ⟨(some 11), none, .fa 0 (.t 1)⟩,
      ⟨(some 12), none, .ld none (.t 11)⟩,
      ⟨(some 13), none, .call ref52_unsigned [(.t 12), (.c (.i .i64 1))]⟩,
      ⟨(some 14), none, .bin .add (.t 10) (.t 13)⟩,
      ⟨(some 15), none, .fa 2 (.t 1)⟩,
      ⟨(some 16), none, .ld none (.t 15)⟩,
      ⟨(some 17), none, .call ref52_unsigned [(.t 16), (.c (.i .i64 6))]⟩,
      ⟨(some 18), none, .bin .add (.t 14) (.t 17)⟩,
      ⟨(some 19), none, .fa 3 (.t 1)⟩,
      ⟨(some 20), none, .ld none (.t 19)⟩,
      ⟨(some 21), none, .call ref52_unsigned [(.t 20), (.c (.i .i64 4))]⟩,
      ⟨(some 22), none, .bin .add (.t 18) (.t 21)⟩,
      ⟨(some 23), none, .fa 4 (.t 1)⟩,
      ⟨(some 24), none, .ld (some 4) (.t 23)⟩,
      ⟨(some 25), none, .call ref52_positions [(.t 24)]⟩,
      ⟨(some 26), none, .bin .add (.t 22) (.t 25)⟩,
      ⟨(some 27), none, .fa 8 (.t 1)⟩,
      ⟨(some 28), none, .ld (some 4) (.t 27)⟩,
      ⟨(some 29), none, .call ref52_positions [(.t 28)]⟩,
      ⟨(some 30), none, .bin .add (.t 26) (.t 29)⟩,
      ⟨(some 4), none, .mv (.t 30)⟩] [[], [], [], [2], [2], [], [], [2, 5], [2, 5], [], [], [2, 5, 9], [2, 5, 9], [], [], [2, 5, 9, 13], [2, 5, 9, 13], [], [], [2, 5, 9, 13, 17], [2, 5, 9, 13, 17], [], [], []])
    (.seq
     (.reg [
       ⟨(some 32), none, .mv (.t 4)⟩,
       ⟨(some 33), none, .mv (.t 4)⟩,
       ⟨(some 34), none, .call ref03_CRC16 [(.t 33)]⟩,
       ⟨(some 35), none, .call ref52_unsigned [(.t 34), (.c (.i .i64 2))]⟩,
       ⟨(some 36), none, .bin .add (.t 32) (.t 35)⟩,
       ⟨(some 37), none, .call ref02_Pad [(.t 36), (.c (.i .i64 58))]⟩,
       ⟨(some 31), none, .mv (.t 37)⟩,
       ⟨(some 38), none, .ext (.t 31) 0⟩,
       ⟨(some 39), none, .ext (.t 31) 1⟩,
       ⟨(some 4), none, .mv (.t 38)⟩])
     (.seq
      (.reg [
        ⟨(some 40), none, .mv (.t 4)⟩,
        ⟨(some 41), none, .fa 1 (.t 1)⟩,
        ⟨(some 42), none, .ld none (.t 41)⟩,
        ⟨(some 43), none, .call ref52_unsigned [(.t 42), (.c (.i .i64 6))]⟩,
        ⟨(some 44), none, .bin .add (.t 40) (.t 43)⟩,
        ⟨(some 2), none, .mv (.t 44)⟩,
        ⟨(some 3), none, .mv (.c (.i .i64 0))⟩])
      .ret)))))
def ref52_Encode.r : List Rr := [.tmp 2, .tmp 3]
abbrev ref52_Encode.n : Nat := 45
def journal_encoder_put.c : C :=
 (.seq
  (.reg [
    ⟨(some 11), none, .mv (.t 3)⟩,
    ⟨(some 12), none, .mv (.t 1)⟩,
    ⟨(some 13), none, .mv (.t 2)⟩,
    ⟨(some 14), none, .callv (.t 11) [(.t 12), (.t 13)]⟩,
    ⟨(some 10), none, .mv (.t 14)⟩,
    ⟨(some 15), none, .ext (.t 10) 0⟩,
    ⟨(some 16), none, .ext (.t 10) 1⟩,
    ⟨(some 8), none, .mv (.t 15)⟩,
    ⟨(some 9), none, .mv (.t 16)⟩])
  (.reg [
    ⟨(some 17), none, .mv (.t 0)⟩,
    ⟨(some 18), none, .nck (.t 17)⟩,
    ⟨(some 19), none, .fa 0 (.t 18)⟩,
    ⟨(some 20), none, .ld none (.t 19)⟩,
    ⟨(some 21), none, .mv (.t 8)⟩,
    ⟨(some 22), none, .bin .add (.t 20) (.t 21)⟩,
    ⟨(some 23), none, .nck (.t 17)⟩,
    ⟨(some 24), none, .fa 0 (.t 23)⟩,
    ⟨none, none, .st 1 (.t 24) (.t 22)⟩]))
def journal_encoder_put.r : List Rr := []
abbrev journal_encoder_put.n : Nat := 25
def journal_Valid.c : C :=
 (.seq
  (.reg [
    ⟨(some 1), none, .box (.t 0)⟩,
    ⟨(some 2), none, .mv (.c (.b false))⟩])
  (.seq
   (.seq
    (.reg [
      ⟨(some 7), none, .fa 0 (.t 1)⟩,
      ⟨(some 8), none, .ld none (.t 7)⟩,
      ⟨(some 9), none, .bin .lss (.t 8) (.c (.i .i64 1))⟩,
      ⟨(some 10), none, .mv (.t 9)⟩,
      ⟨(some 11), (some (10, false)), .fa 0 (.t 1)⟩,
      ⟨(some 12), (some (10, false)), .ld none (.t 11)⟩,
      ⟨(some 13), (some (10, false)), .bin .gtr (.t 12) (.c (.i .i64 3))⟩,
      ⟨(some 14), none, .pick (.t 10) (.c (.b true)) (.t 13)⟩,
      ⟨(some 15), none, .mv (.t 14)⟩,
      ⟨(some 16), (some (15, false)), .fa 1 (.t 1)⟩,
      ⟨(some 17), (some (15, false)), .ld none (.t 16)⟩,
      ⟨(some 18), (some (15, false)), .bin .lss (.t 17) (.c (.i .i64 1))⟩,
      ⟨(some 19), none, .pick (.t 15) (.c (.b true)) (.t 18)⟩,
      ⟨(some 20), none, .mv (.t 19)⟩,
      ⟨(some 21), (some (20, false)), .fa 1 (.t 1)⟩,
      ⟨(some 22), (some (20, false)), .ld none (.t 21)⟩,
      ⟨(some 23), (some (20, false)), .bin .gtr (.t 22) (.c (.i .i64 1099511627776))⟩,
      ⟨(some 24), none, .pick (.t 20) (.c (.b true)) (.t 23)⟩,
      ⟨(some 25), none, .mv (.t 24)⟩,
      ⟨(some 26), (some (25, false)), .fa 2 (.t 1)⟩,
      ⟨(some 27), (some (25, false)), .ld none (.t 26)⟩,
      ⟨(some 28), (some (25, false)), .bin .lss (.t 27) (.c (.i .i64 0))⟩,
      ⟨(some 29), none, .pick (.t 25) (.c (.b true)) (.t 28)⟩,
      ⟨(some 30), none, .mv (.t 29)⟩,
      ⟨(some 31), (some (30, false)), .fa 2 (.t 1)⟩,
      ⟨(some 32), (some (30, false)), .ld none (.t 31)⟩,
      ⟨(some 33), (some (30, false)), .bin .gtr (.t 32) (.c (.i .i64 1099511627776))⟩,
      ⟨(some 34), none, .pick (.t 30) (.c (.b true)) (.t 33)⟩,
      ⟨(some 35), none, .mv (.t 34)⟩,
      ⟨(some 36), (some (35, false)), .fa 3 (.t 1)⟩,
      ⟨(some 37), (some (35, false)), .ld none (.t 36)⟩,
      ⟨(some 38), (some (35, false)), .bin .lss (.t 37) (.c (.i .i64 0))⟩,
      ⟨(some 39), none, .pick (.t 35) (.c (.b true)) (.t 38)⟩,
      ⟨(some 40), none, .mv (.t 39)⟩,
      ⟨(some 41), (some (40, false)), .fa 3 (.t 1)⟩,
      ⟨(some 42), (some (40, false)), .ld none (.t 41)⟩,
      ⟨(some 43), (some (40, false)), .bin .gtr (.t 42) (.c (.i .i64 16777216))⟩,
      ⟨(some 44), none, .pick (.t 40) (.c (.b true)) (.t 43)⟩])
    (.ite (.t 44)
     (.seq
      (.reg [
        ⟨(some 2), none, .mv (.c (.b false))⟩])
      .ret)
     .skip))
   (.seq
    (.seq
     (.reg [
       ⟨(some 45), none, .fa 4 (.t 1)⟩,
       ⟨(some 46), none, .ld (some 4) (.t 45)⟩,
       ⟨(some 47), none, .fa 8 (.t 1)⟩,
       ⟨(some 48), none, .ld (some 4) (.t 47)⟩,
       ⟨(some 49), none, .build [(.i .i64 0), (.i .i64 0), (.i .i64 0), (.i .i64 0), (.i .i64 0), (.i .i64 0), (.i .i64 0), (.i .i64 0)] [(0, 4, (.t 46)), (4, 4, (.t 48))]⟩,
       ⟨(some 50), none, .mv (.c (.i .i64 0))⟩])
     (.blk 0
      (.loop
       (.seq
        (.reg [
          ⟨(some 51), none, .bin .lss (.t 50) (.c (.i .i64 2))⟩])
        (.seq
         (.ite (.t 51)
          .skip
          (.exit 0))
         (.seq
          (.blk 1
           (.seq
            (.reg [
              ⟨(some 52), none, .ix 2 4 (some 4) (.t 49) (.t 50)⟩,
              ⟨(some 4), none, .alloc [(.i .i64 0), (.i .i64 0), (.i .i64 0), (.i .i64 0)]⟩,
              ⟨none, none, .st 4 (.t 4) (.t 52)⟩])
            (.seq
             (.reg [
               ⟨(some 53), none, .ld (some 4) (.t 4)⟩,
               ⟨(some 54), none, .mv (.c (.i .i64 0))⟩])
             (.blk 2
              (.loop
               (.seq
                (.reg [
                  ⟨(some 55), none, .bin .lss (.t 54) (.c (.i .i64 4))⟩])
                (.seq
                 (.ite (.t 55)
                  .skip
                  (.exit 2))
                 (.seq
                  (.blk 3
                   (.seq
                    (.reg [
                      ⟨(some 56), none, .ix 4 1 none (.t 53) (.t 54)⟩,
                      ⟨(some 6), none, .mv (.t 56)⟩])
                    (.seq
                     (.reg [
                       ⟨(some 57), none, .mv (.t 6)⟩,
                       ⟨(some 58), none, .bin .lss (.t 57) (.c (.i .i64 (-2147483648)))⟩,
                       ⟨(some 59), none, .mv (.t 58)⟩,
                       ⟨(some 60), (some (59, false)), .mv (.t 6)⟩,
                       ⟨(some 61), (some (59, false)), .bin .geq (.t 60) (.c (.i .i64 2147483648))⟩,
                       ⟨(some 62), none, .pick (.t 59) (.c (.b true)) (.t 61)⟩])
                     (.ite (.t 62)
                      (.seq
                       (.reg [
                         ⟨(some 2), none, .mv (.c (.b false))⟩])
                       .ret)
                      .skip))))
                  (.reg [
                    ⟨(some 63), none, .bin .add (.t 54) (.c (.i .i64 1))⟩,
                    ⟨(some 54), none, .mv (.t 63)⟩])))))))))
          (.reg [
            ⟨(some 64), none, .bin .add (.t 50) (.c (.i .i64 1))⟩,
            ⟨(some 50), none, .mv (.t 64)⟩])))))))
    (.seq
     (.reg [
       ⟨(some 2), none, .mv (.c (.b true))⟩])
     .ret))))
def journal_Valid.r : List Rr := [.tmp 2]
abbrev journal_Valid.n : Nat := 65
def journal_Encode.c (journal_Valid journal_encoder_put wire_Uint wire_Int sum_CRC16 wire_Pad : FuncId) : C :=
 (.seq
  (.reg [
    ⟨(some 1), none, .box (.t 0)⟩,
    ⟨(some 2), none, .mv (.c (.s []))⟩,
    ⟨(some 3), none, .mv (.c (.i .i64 0))⟩])
  (.seq
   (.seq
    (.reg [
      ⟨(some 9), none, .ld (some 12) (.t 1)⟩,
      ⟨(some 10), none, .call journal_Valid [(.t 9)]⟩,
      ⟨(some 11), none, .un .not (.t 10)⟩])
    (.ite (.t 11)
     (.seq
      (.reg [
        ⟨(some 2), none, .mv (.c (.s []))⟩,
        ⟨(some 3), none, .mv (.c (.i .i64 1))⟩])
      .ret)
     .skip))
   (.seq
    (.reg [
      ⟨(some 12), none, .build [(.s [])] []⟩,
      ⟨(some 13), none, .box (.t 12)⟩,
      ⟨(some 4), none, .mv (.t 13)⟩])
    (.seq
     (.reg [
       ⟨(some 14), none, .mv (.t 4)⟩,
       ⟨(some 15), none, .fa 1 (.t 1)⟩,
       ⟨(some 16), none, .ld none (.t 15)⟩,
       ⟨(some 17), none, .call journal_encoder_put [(.t 14), (.t 16), (.c (.i .i64 6)), (.c (.f wire_Uint []))]⟩])
     (.seq
      (.reg [
        ⟨(some 18), none, .mv (.t 4)⟩,
        ⟨(some 19), none, .fa 0 (.t 1)⟩,
        ⟨(some 20), none, .ld none (.t 19)⟩,
        ⟨(some 21), none, .call journal_encoder_put [(.t 18), (.t 20), (.c (.i .i64 1)), (.c (.f wire_Uint []))]⟩])
      (.seq
       (.reg [
         ⟨(some 22), none, .mv (.t 4)⟩,
         ⟨(some 23), none, .fa 2 (.t 1)⟩,
         ⟨(some 24), none, .ld none (.t 23)⟩,
         ⟨(some 25), none, .call journal_encoder_put [(.t 22), (.t 24), (.c (.i .i64 6)), (.c (.f wire_Uint []))]⟩])
       (.seq
        (.reg [
          ⟨(some 26), none, .mv (.t 4)⟩,
          ⟨(some 27), none, .fa 3 (.t 1)⟩,
          ⟨(some 28), none, .ld none (.t 27)⟩,
          ⟨(some 29), none, .call journal_encoder_put [(.t 26), (.t 28), (.c (.i .i64 4)), (.c (.f wire_Uint []))]⟩])
        (.seq
         (.seq
          (.reg [
            ⟨(some 30), none, .fa 4 (.t 1)⟩,
            ⟨(some 31), none, .ld (some 4) (.t 30)⟩,
            ⟨(some 32), none, .fa 8 (.t 1)⟩,
            ⟨(some 33), none, .ld (some 4) (.t 32)⟩,
            ⟨(some 34), none, .build [(.i .i64 0), (.i .i64 0), (.i .i64 0), (.i .i64 0), (.i .i64 0), (.i .i64 0), (.i .i64 0), (.i .i64 0)] [(0, 4, (.t 31)), (4, 4, (.t 33))]⟩,
            ⟨(some 35), none, .mv (.c (.i .i64 0))⟩])
          (.blk 0
           (.loop
            (.seq
             (.reg [
               ⟨(some 36), none, .bin .lss (.t 35) (.c (.i .i64 2))⟩])
             (.seq
              (.ite (.t 36)
               .skip
               (.exit 0))
              (.seq
               (.blk 1
                (.seq
                 (.reg [
                   ⟨(some 37), none, .ix 2 4 (some 4) (.t 34) (.t 35)⟩,
                   ⟨(some 6), none, .alloc [(.i .i64 0), (.i .i64 0), (.i .i64 0), (.i .i64 0)]⟩,
                   ⟨none, none, .st 4 (.t 6) (.t 37)⟩])
                 (.seq
                  (.reg [
                    ⟨(some 38), none, .ld (some 4) (.t 6)⟩,
                    ⟨(some 39), none, .mv (.c (.i .i64 0))⟩])
                  (.blk 2
                   (.loop
                    (.seq
                     (.reg [
                       ⟨(some 40), none, .bin .lss (.t 39) (.c (.i .i64 4))⟩])
                     (.seq
                      (.ite (.t 40)
                       .skip
                       (.exit 2))
                      (.seq
                       (.blk 3
                        (.seq
                         (.reg [
                           ⟨(some 41), none, .ix 4 1 none (.t 38) (.t 39)⟩,
                           ⟨(some 8), none, .mv (.t 41)⟩])
                         (.reg [
                           ⟨(some 42), none, .mv (.t 4)⟩,
                           ⟨(some 43), none, .mv (.t 8)⟩,
                           ⟨(some 44), none, .call journal_encoder_put [(.t 42), (.t 43), (.c (.i .i64 4)), (.c (.f wire_Int []))]⟩])))
                       (.reg [
                         ⟨(some 45), none, .bin .add (.t 39) (.c (.i .i64 1))⟩,
                         ⟨(some 39), none, .mv (.t 45)⟩])))))))))
               (.reg [
                 ⟨(some 46), none, .bin .add (.t 35) (.c (.i .i64 1))⟩,
                 ⟨(some 35), none, .mv (.t 46)⟩])))))))
         (.seq
          (.reg [
            ⟨(some 47), none, .mv (.t 4)⟩,
            ⟨(some 48), none, .mv (.t 4)⟩,
            ⟨(some 49), none, .nck (.t 48)⟩,
            ⟨(some 50), none, .fa 0 (.t 49)⟩,
            ⟨(some 51), none, .ld none (.t 50)⟩,
            ⟨(some 52), none, .call sum_CRC16 [(.t 51)]⟩,
            ⟨(some 53), none, .call journal_encoder_put [(.t 47), (.t 52), (.c (.i .i64 2)), (.c (.f wire_Uint []))]⟩])
          (.seq
           (.reg [
             ⟨(some 55), none, .mv (.t 4)⟩,
             ⟨(some 56), none, .mv (.t 4)⟩,
             ⟨(some 57), none, .nck (.t 56)⟩,
             ⟨(some 58), none, .fa 0 (.t 57)⟩,
             ⟨(some 59), none, .ld none (.t 58)⟩,
             ⟨(some 60), none, .call wire_Pad [(.t 59), (.c (.i .i64 58))]⟩,
             ⟨(some 54), none, .mv (.t 60)⟩,
             ⟨(some 61), none, .ext (.t 54) 0⟩,
             ⟨(some 62), none, .ext (.t 54) 1⟩,
             ⟨(some 63), none, .nck (.t 55)⟩,
             ⟨(some 64), none, .fa 0 (.t 63)⟩,
             ⟨none, none, .st 1 (.t 64) (.t 61)⟩])
           (.seq
            (.reg [
              ⟨(some 65), none, .mv (.t 4)⟩,
              ⟨(some 66), none, .fa 1 (.t 1)⟩,
              ⟨(some 67), none, .ld none (.t 66)⟩,
              ⟨(some 68), none, .call journal_encoder_put [(.t 65), (.t 67), (.c (.i .i64 6)), (.c (.f wire_Uint []))]⟩])
            (.seq
             (.reg [
               ⟨(some 69), none, .mv (.t 4)⟩,
               ⟨(some 70), none, .nck (.t 69)⟩,
               ⟨(some 71), none, .fa 0 (.t 70)⟩,
               ⟨(some 72), none, .ld none (.t 71)⟩,
               ⟨(some 2), none, .mv (.t 72)⟩,
               ⟨(some 3), none, .mv (.c (.i .i64 0))⟩])
             .ret))))))))))))
def journal_Encode.r : List Rr := [.tmp 2, .tmp 3]
abbrev journal_Encode.n : Nat := 73
def wire_take.c (wire_valid : FuncId) : C :=
 (.seq
  (.reg [
    ⟨(some 6), none, .mv (.c (.i .u64 0))⟩,
    ⟨(some 7), none, .mv (.c (.i .i64 0))⟩])
  (.seq
   (.blk 0
    (.seq
     (.reg [
       ⟨(some 11), none, .mv (.t 1)⟩,
       ⟨(some 12), none, .bin .lss (.t 11) (.c (.i .i64 0))⟩,
       ⟨(some 13), none, .mv (.t 12)⟩,
       ⟨(some 14), (some (13, false)), .mv (.t 1)⟩,
       ⟨(some 15), (some (13, false)), .mv (.t 0)⟩,
       ⟨(some 16), (some (13, false)), .len 1 (.t 15)⟩,
       ⟨(some 17), (some (13, false)), .bin .gtr (.t 14) (.t 16)⟩,
       ⟨(some 18), none, .pick (.t 13) (.c (.b true)) (.t 17)⟩,
       ⟨(some 19), none, .mv (.t 18)⟩,
       ⟨(some 20), (some (19, false)), .mv (.t 2)⟩,
       ⟨(some 21), (some (19, false)), .call wire_valid [(.t 20)]⟩,
       ⟨(some 22), (some (19, false)), .un .not (.t 21)⟩,
       ⟨(some 23), none, .pick (.t 19) (.c (.b true)) (.t 22)⟩,
       ⟨(some 10), none, .mv (.t 23)⟩])
     (.ite (.t 10)
      (.seq
       (.reg [
         ⟨(some 6), none, .mv (.c (.i .u64 0))⟩,
         ⟨(some 7), none, .mv (.c (.i .i64 1))⟩])
       .ret)
      (.seq
       (.reg [
         ⟨(some 25), none, .mv (.t 0)⟩,
         ⟨(some 26), none, .len 1 (.t 25)⟩,
         ⟨(some 27), none, .mv (.t 1)⟩,
         ⟨(some 28), none, .bin .sub (.t 26) (.t 27)⟩,
         ⟨(some 29), none, .mv (.t 2)⟩,
         ⟨(some 30), none, .bin .lss (.t 28) (.t 29)⟩,
         ⟨(some 24), none, .mv (.t 30)⟩])
       (.ite (.t 24)
        (.seq
         (.reg [
           ⟨(some 6), none, .mv (.c (.i .u64 0))⟩,
           ⟨(some 7), none, .mv (.c (.i .i64 6))⟩])
         .ret)
        .skip)))))
   (.seq
    (.reg [
      ⟨(some 8), none, .mv (.c (.i .u64 0))⟩])
    (.seq
     (.seq
      (.reg [
        ⟨(some 31), none, .mv (.t 2)⟩,
        ⟨(some 32), none, .mv (.c (.i .i64 0))⟩])
      (.blk 1
       (.loop
        (.seq
         (.reg [
           ⟨(some 33), none, .bin .lss (.t 32) (.t 31)⟩])
         (.seq
          (.ite (.t 33)
           .skip
           (.exit 1))
          (.seq
           (.blk 2
            (.seq
             (.reg [
               ⟨(some 34), none, .mv (.t 32)⟩,
               ⟨(some 9), none, .mv (.t 34)⟩])
             (.reg [
               ⟨(some 35), none, .mv (.t 8)⟩,
               ⟨(some 36), none, .bin .shl (.t 35) (.c (.i .u64 8))⟩,
               ⟨(some 37), none, .mv (.t 0)⟩,
               ⟨(some 38), none, .mv (.t 1)⟩,
               ⟨(some 39), none, .mv (.t 9)⟩,
               ⟨(some 40), none, .bin .add (.t 38) (.t 39)⟩,
               ⟨(some 41), none, .ixs (.t 37) (.t 40)⟩,
               ⟨(some 42), none, .cvi .u64 (.t 41)⟩,
               ⟨(some 43), none, .bin .or (.t 36) (.t 42)⟩,
               ⟨(some 8), none, .mv (.t 43)⟩])))
           (.reg [
             ⟨(some 44), none, .bin .add (.t 32) (.c (.i .i64 1))⟩,
             ⟨(some 32), none, .mv (.t 44)⟩])))))))
     (.seq
      (.reg [
        ⟨(some 45), none, .mv (.t 8)⟩,
        ⟨(some 6), none, .mv (.t 45)⟩,
        ⟨(some 7), none, .mv (.c (.i .i64 0))⟩])
      .ret)))))
def wire_take.r : List Rr := [.tmp 6, .tmp 7]
abbrev wire_take.n : Nat := 46
def wire_TakeUint.c (wire_take : FuncId) : C :=
 (.seq
  (.reg [
    ⟨(some 6), none, .mv (.c (.i .i64 0))⟩,
    ⟨(some 7), none, .mv (.c (.i .i64 0))⟩,
    ⟨(some 8), none, .mv (.c (.i .i64 0))⟩])
  (.seq
   (.reg [
     ⟨(some 12), none, .mv (.t 0)⟩,
     ⟨(some 13), none, .mv (.t 1)⟩,
     ⟨(some 14), none, .mv (.t 2)⟩,
     ⟨(some 15), none, .call wire_take [(.t 12), (.t 13), (.t 14)]⟩,
     ⟨(some 11), none, .mv (.t 15)⟩,
     ⟨(some 16), none, .ext (.t 11) 0⟩,
     ⟨(some 17), none, .ext (.t 11) 1⟩,
     ⟨(some 9), none, .mv (.t 16)⟩,
     ⟨(some 10), none, .mv (.t 17)⟩])
   (.seq
    (.blk 0
     (.seq
      (.reg [
        ⟨(some 19), none, .mv (.t 10)⟩,
        ⟨(some 20), none, .bin .neq (.t 19) (.c (.i .i64 0))⟩,
        ⟨(some 18), none, .mv (.t 20)⟩])
      (.ite (.t 18)
       (.seq
        (.reg [
          ⟨(some 21), none, .mv (.t 10)⟩,
          ⟨(some 6), none, .mv (.c (.i .i64 0))⟩,
          ⟨(some 7), none, .mv (.c (.i .i64 0))⟩,
          ⟨(some 8), none, .mv (.t 21)⟩])
        .ret)
       (.seq
        (.reg [
          ⟨(some 23), none, .mv (.t 9)⟩,
          ⟨(some 24), none, .bin .geq (.t 23) (.c (.i .u64 9223372036854775808))⟩,
          ⟨(some 22), none, .mv (.t 24)⟩])
        (.ite (.t 22)
         (.seq
          (.reg [
            ⟨(some 6), none, .mv (.c (.i .i64 0))⟩,
            ⟨(some 7), none, .mv (.c (.i .i64 0))⟩,
            ⟨(some 8), none, .mv (.c (.i .i64 3))⟩])
          .ret)
         .skip)))))
    (.seq
     (.reg [
       ⟨(some 25), none, .mv (.t 9)⟩,
       ⟨(some 26), none, .cvi .i64 (.t 25)⟩,
       ⟨(some 27), none, .mv (.t 1)⟩,
       ⟨(some 28), none, .mv (.t 2)⟩,
       ⟨(some 29), none, .bin .add (.t 27) (.t 28)⟩,
       ⟨(some 6), none, .mv (.t 26)⟩,
       ⟨(some 7), none, .mv (.t 29)⟩,
       ⟨(some 8), none, .mv (.c (.i .i64 0))⟩])
     .ret))))
def wire_TakeUint.r : List Rr := [.tmp 6, .tmp 7, .tmp 8]
abbrev wire_TakeUint.n : Nat := 30
def wire_TakeInt.c (wire_take : FuncId) : C :=
 (.seq
  (.reg [
    ⟨(some 6), none, .mv (.c (.i .i64 0))⟩,
    ⟨(some 7), none, .mv (.c (.i .i64 0))⟩,
    ⟨(some 8), none, .mv (.c (.i .i64 0))⟩])
  (.seq
   (.reg [
     ⟨(some 13), none, .mv (.t 0)⟩,
     ⟨(some 14), none, .mv (.t 1)⟩,
     ⟨(some 15), none, .mv (.t 2)⟩,
     ⟨(some 16), none, .call wire_take [(.t 13), (.t 14), (.t 15)]⟩,
     ⟨(some 12), none, .mv (.t 16)⟩,
     ⟨(some 17), none, .ext (.t 12) 0⟩,
     ⟨(some 18), none, .ext (.t 12) 1⟩,
     ⟨(some 9), none, .mv (.t 17)⟩,
     ⟨(some 10), none, .mv (.t 18)⟩])
   (.seq
    (.seq
     (.reg [
       ⟨(some 19), none, .mv (.t 10)⟩,
       ⟨(some 20), none, .bin .neq (.t 19) (.c (.i .i64 0))⟩])
     (.ite (.t 20)
      (.seq
       (.reg [
         ⟨(some 21), none, .mv (.t 10)⟩,
         ⟨(some 6), none, .mv (.c (.i .i64 0))⟩,
         ⟨(some 7), none, .mv (.c (.i .i64 0))⟩,
         ⟨(some 8), none, .mv (.t 21)⟩])
       .ret)
      .skip))
    (.seq
     (.reg [
       ⟨(some 22), none, .mv (.t 2)⟩,
       ⟨(some 23), none, .bin .mul (.c (.i .i64 8)) (.t 22)⟩,
       ⟨(some 24), none, .bin .sub (.c (.i .i64 64)) (.t 23)⟩,
       ⟨(some 11), none, .mv (.t 24)⟩])
     (.seq
      (.reg [
        ⟨(some 25), none, .mv (.t 9)⟩,
        ⟨(some 26), none, .mv (.t 11)⟩,
        ⟨(some 27), none, .bin .shl (.t 25) (.t 26)⟩,
        ⟨(some 28), none, .cvi .i64 (.t 27)⟩,
        ⟨(some 29), none, .mv (.t 11)⟩,
        ⟨(some 30), none, .bin .shr (.t 28) (.t 29)⟩,
        ⟨(some 31), none, .mv (.t 1)⟩,
        ⟨(some 32), none, .mv (.t 2)⟩,
        ⟨(some 33), none, .bin .add (.t 31) (.t 32)⟩,
        ⟨(some 6), none, .mv (.t 30)⟩,
        ⟨(some 7), none, .mv (.t 33)⟩,
        ⟨(some 8), none, .mv (.c (.i .i64 0))⟩])
      .ret)))))
def wire_TakeInt.r : List Rr := [.tmp 6, .tmp 7, .tmp 8]
abbrev wire_TakeInt.n : Nat := 34
def journal_reader_int_next.c : C :=
 (.seq
  (.reg [
    ⟨(some 2), none, .mv (.c (.i .i64 0))⟩])
  (.seq
   (.drw [
     ⟨(some 7), none, .mv (.t 0)⟩,
     ⟨(some 8), none, .nck (.t 7)⟩,
     ⟨(some 9), none, .fa 3 (.t 8)⟩,
     ⟨(some 10), none, .ld none (.t 9)⟩,
     ⟨(some 11), none, .mv (.t 0)⟩,
     ⟨(some 12), none, .nck (.t 11)⟩,
     ⟨(some 13), none, .fa 0 (.t 12)⟩,
     ⟨(some 14), none, .ld none (.t 13)⟩,
     ⟨(some 15), none, .mv (.t 0)⟩,
     ⟨(some 16), none, .nck (.t 15)⟩,
     ⟨(some 17), none, .fa 1 (.t 16)⟩,
     ⟨(some 18), none, .ld none (.t 17)⟩,
     ⟨(some 19), none, .mv (.t 0)⟩,
     ⟨(some 20), none, .nck (.t 19)⟩,
     ⟨(some 21), none, .fa 2 (.t 20)⟩,
     ⟨(some 22), none, .ld none (.t 21)⟩,
     ⟨(some 23), none, .callv (.t 10) [(.t 14), (.t 18), (.t 22)]⟩,
     ⟨(some 6), none, .mv (.t 23)⟩,
     ⟨(some 24), none, .ext (.t 6) 0⟩,
     ⟨(some 25), none, .ext (.t 6) 1⟩,
     ⟨(some 26), none, .ext (.t 6) 2⟩,
     ⟨(some 3), none, .mv (.t 24)⟩,
     ⟨(some 4), none, .mv (.t 25)⟩,
     ⟨(some 5), none, .mv (.t 26)⟩] [])
   (.seq
    (.seq
     (.reg [
       ⟨(some 27), none, .mv (.t 5)⟩,
       ⟨(some 28), none, .bin .eql (.t 27) (.c (.i .i64 0))⟩])
     (.ite (.t 28)
      (.reg [
        ⟨(some 29), none, .mv (.t 0)⟩,
        ⟨(some 30), none, .mv (.t 4)⟩,
        ⟨(some 31), none, .nck (.t 29)⟩,
        ⟨(some 32), none, .fa 1 (.t 31)⟩,
        ⟨none, none, .st 1 (.t 32) (.t 30)⟩])
      .skip))
    (.seq
     (.reg [
       ⟨(some 33), none, .mv (.t 3)⟩,
       ⟨(some 2), none, .mv (.t 33)⟩])
     .ret))))
def journal_reader_int_next.r : List Rr := [.tmp 2]
abbrev journal_reader_int_next.n : Nat := 34
def journal_Decode.c (wire_TakeUint journal_reader_int_next wire_TakeInt journal_Encode : FuncId) : C :=
 (.seq
  (.reg [
    ⟨(some 2), none, .alloc [(.i .i64 0), (.i .i64 0), (.i .i64 0), (.i .i64 0), (.i .i64 0), (.i .i64 0), (.i .i64 0), (.i .i64 0), (.i .i64 0), (.i .i64 0), (.i .i64 0), (.i .i64 0)]⟩,
    ⟨(some 3), none, .mv (.c (.i .i64 0))⟩])
  (.seq
   (.seq
    (.reg [
      ⟨(some 12), none, .mv (.t 0)⟩,
      ⟨(some 13), none, .len 1 (.t 12)⟩,
      ⟨(some 14), none, .bin .lss (.t 13) (.c (.i .i64 64))⟩])
    (.ite (.t 14)
     (.seq
      (.reg [
        ⟨(some 15), none, .build [(.i .i64 0), (.i .i64 0), (.i .i64 0), (.i .i64 0), (.i .i64 0), (.i .i64 0), (.i .i64 0), (.i .i64 0), (.i .i64 0), (.i .i64 0), (.i .i64 0), (.i .i64 0)] []⟩,
        ⟨none, none, .st 12 (.t 2) (.t 15)⟩,
        ⟨(some 3), none, .mv (.c (.i .i64 6))⟩])
      .ret)
     .skip))
   (.seq
    (.reg [
      ⟨(some 4), none, .alloc [(.i .i64 0), (.i .i64 0), (.i .i64 0), (.i .i64 0), (.i .i64 0), (.i .i64 0), (.i .i64 0), (.i .i64 0), (.i .i64 0), (.i .i64 0), (.i .i64 0), (.i .i64 0)]⟩])
    (.seq
     (.reg [
       ⟨(some 16), none, .mv (.t 0)⟩,
       ⟨(some 17), none, .build [(.s []), (.i .i64 0), (.i .i64 0), .any] [(0, 1, (.t 16)), (2, 1, (.c (.i .i64 6))), (3, 1, (.c (.f wire_TakeUint [])))]⟩,
       ⟨(some 18), none, .box (.t 17)⟩,
       ⟨(some 5), none, .mv (.t 18)⟩])
     (.seq
      (.reg [
        ⟨(some 19), none, .mv (.t 5)⟩,
        ⟨(some 20), none, .call journal_reader_int_next [(.t 19)]⟩,
        ⟨(some 21), none, .fa 1 (.t 4)⟩,
        ⟨none, none, .st 1 (.t 21) (.t 20)⟩])
      (.seq
       (.reg [
         ⟨(some 22), none, .mv (.t 5)⟩,
         ⟨(some 23), none, .nck (.t 22)⟩,
         ⟨(some 24), none, .fa 2 (.t 23)⟩,
         ⟨none, none, .st 1 (.t 24) (.c (.i .i64 1))⟩])
       (.seq
        (.reg [
          ⟨(some 25), none, .mv (.t 5)⟩,
          ⟨(some 26), none, .call journal_reader_int_next [(.t 25)]⟩,
          ⟨(some 27), none, .fa 0 (.t 4)⟩,
          ⟨none, none, .st 1 (.t 27) (.t 26)⟩])
        (.seq
         (.reg [
           ⟨(some 28), none, .mv (.t 5)⟩,
           ⟨(some 29), none, .nck (.t 28)⟩,
           ⟨(some 30), none, .fa 2 (.t 29)⟩,
           ⟨none, none, .st 1 (.t 30) (.c (.i .i64 6))⟩])
         (.seq
          (.reg [
            ⟨(some 31), none, .mv (.t 5)⟩,
            ⟨(some 32), none, .call journal_reader_int_next [(.t 31)]⟩,
            ⟨(some 33), none, .fa 2 (.t 4)⟩,
            ⟨none, none, .st 1 (.t 33) (.t 32)⟩])
          (.seq
           (.reg [
             ⟨(some 34), none, .mv (.t 5)⟩,
             ⟨(some 35), none, .nck (.t 34)⟩,
             ⟨(some 36), none, .fa 2 (.t 35)⟩,
             ⟨none, none, .st 1 (.t 36) (.c (.i .i64 4))⟩])
           (.seq
            (.reg [
              ⟨(some 37), none, .mv (.t 5)⟩,
              ⟨(some 38), none, .call journal_reader_int_next [(.t 37)]⟩,
              ⟨(some 39), none, .fa 3 (.t 4)⟩,
              ⟨none, none, .st 1 (.t 39) (.t 38)⟩])
            (.seq
             (.reg [
               ⟨(some 40), none, .mv (.t 0)⟩,
               ⟨(some 41), none, .mv (.t 5)⟩,
               ⟨(some 42), none, .nck (.t 41)⟩,
               ⟨(some 43), none, .fa 1 (.t 42)⟩,
               ⟨(some 44), none, .ld none (.t 43)⟩,
               ⟨(some 45), none, .build [(.s []), (.i .i64 0), (.i .i64 0), .any] [(0, 1, (.t 40)), (1, 1, (.t 44)), (2, 1, (.c (.i .i64 4))), (3, 1, (.c (.f wire_TakeInt [])))]⟩,
               ⟨(some 46), none, .box (.t 45)⟩,
               ⟨(some 6), none, .mv (.t 46)⟩])
             (.seq
              (.seq
               (.reg [
                 ⟨(some 47), none, .fa 4 (.t 4)⟩,
                 ⟨(some 48), none, .fa 8 (.t 4)⟩,
                 ⟨(some 49), none, .build [.np, .np] [(0, 1, (.t 47)), (1, 1, (.t 48))]⟩,
                 ⟨(some 50), none, .mv (.c (.i .i64 0))⟩])
               (.blk 0
                (.loop
                 (.seq
                  (.reg [
                    ⟨(some 51), none, .bin .lss (.t 50) (.c (.i .i64 2))⟩])
                  (.seq
                   (.ite (.t 51)
                    .skip
                    (.exit 0))
                   (.seq
                    (.blk 1
                     (.seq
                      (.reg [
                        ⟨(some 52), none, .ix 2 1 none (.t 49) (.t 50)⟩,
                        ⟨(some 8), none, .mv (.t 52)⟩])
                      (.seq
                       (.reg [
                         ⟨(some 53), none, .mv (.c (.i .i64 0))⟩])
                       (.blk 2
                        (.loop
                         (.seq
                          (.reg [
                            ⟨(some 54), none, .bin .lss (.t 53) (.c (.i .i64 4))⟩])
                          (.seq
                           (.ite (.t 54)
                            .skip
                            (.exit 2))
                           (.seq
                            (.blk 3
                             (.seq
                              (.reg [
                                ⟨(some 55), none, .mv (.t 53)⟩,
                                ⟨(some 9), none, .mv (.t 55)⟩])
                              (.drw [
                                ⟨(some 56), none, .mv (.t 8)⟩,
                                ⟨(some 57), none, .mv (.t 9)⟩,
                                ⟨(some 58), none, .mv (.t 6)⟩,
                                ⟨(some 59), none, .call journal_reader_int_next [(.t 58)]⟩,
                                ⟨(some 60), none, .nck (.t 56)⟩,
                                ⟨(some 61), none, .iaa 4 1 (.t 60) (.t 57)⟩,
                                ⟨none, none, .st 1 (.t 61) (.t 59)⟩] [[], [], [], [], [3], [], []])))
                            (.reg [
                              ⟨(some 62), none, .bin .add (.t 53) (.c (.i .i64 1))⟩,
                              ⟨(some 53), none, .mv (.t 62)⟩])))))))))
                    (.reg [
                      ⟨(some 63), none, .bin .add (.t 50) (.c (.i .i64 1))⟩,
                      ⟨(some 50), none, .mv (.t 63)⟩])))))))
              (.seq
               (.seq
                (.reg [
                  ⟨(some 65), none, .ld (some 12) (.t 4)⟩,
                  ⟨(some 66), none, .call journal_Encode [(.t 65)]⟩,
                  ⟨(some 64), none, .mv (.t 66)⟩,
                  ⟨(some 67), none, .ext (.t 64) 0⟩,
                  ⟨(some 68), none, .ext (.t 64) 1⟩,
                  ⟨(some 10), none, .mv (.t 67)⟩,
                  ⟨(some 11), none, .mv (.t 68)⟩])
                (.seq
                 (.reg [
                   ⟨(some 69), none, .mv (.t 11)⟩,
                   ⟨(some 70), none, .bin .neq (.t 69) (.c (.i .i64 0))⟩,
                   ⟨(some 71), none, .mv (.t 70)⟩,
                   ⟨(some 72), (some (71, false)), .mv (.t 10)⟩,
                   ⟨(some 73), (some (71, false)), .mv (.t 0)⟩,
                   ⟨(some 74), (some (71, false)), .bin .neq (.t 72) (.t 73)⟩,
                   ⟨(some 75), none, .pick (.t 71) (.c (.b true)) (.t 74)⟩])
                 (.ite (.t 75)
                  (.seq
                   (.reg [
                     ⟨(some 76), none, .build [(.i .i64 0), (.i .i64 0), (.i .i64 0), (.i .i64 0), (.i .i64 0), (.i .i64 0), (.i .i64 0), (.i .i64 0), (.i .i64 0), (.i .i64 0), (.i .i64 0), (.i .i64 0)] []⟩,
                     ⟨none, none, .st 12 (.t 2) (.t 76)⟩,
                     ⟨(some 3), none, .mv (.c (.i .i64 19))⟩])
                   .ret)
                  .skip)))
               (.seq
                (.reg [
                  ⟨(some 77), none, .ld (some 12) (.t 4)⟩,
                  ⟨none, none, .st 12 (.t 2) (.t 77)⟩,
                  ⟨(some 3), none, .mv (.c (.i .i64 0))⟩])
                .ret)))))))))))))))
def journal_Decode.r : List Rr := [.cell 2 (some 12), .tmp 3]
abbrev journal_Decode.n : Nat := 78
def ref02_taken.c (ref02_fits : FuncId) : C :=
 (.seq
  (.reg [
    ⟨(some 6), none, .mv (.c (.s []))⟩,
    ⟨(some 7), none, .mv (.c (.i .i64 0))⟩])
  (.seq
   (.seq
    (.reg [
      ⟨(some 8), none, .mv (.t 1)⟩,
      ⟨(some 9), none, .bin .lss (.t 8) (.c (.i .i64 0))⟩,
      ⟨(some 10), none, .mv (.t 9)⟩,
      ⟨(some 11), (some (10, false)), .mv (.t 1)⟩,
      ⟨(some 12), (some (10, false)), .mv (.t 0)⟩,
      ⟨(some 13), (some (10, false)), .len 1 (.t 12)⟩,
      ⟨(some 14), (some (10, false)), .bin .gtr (.t 11) (.t 13)⟩,
      ⟨(some 15), none, .pick (.t 10) (.c (.b true)) (.t 14)⟩,
      ⟨(some 16), none, .mv (.t 15)⟩,
      ⟨(some 17), (some (16, false)), .mv (.t 2)⟩,
      ⟨(some 18), (some (16, false)), .call ref02_fits [(.t 17)]⟩,
      ⟨(some 19), (some (16, false)), .un .not (.t 18)⟩,
      ⟨(some 20), none, .pick (.t 16) (.c (.b true)) (.t 19)⟩])
    (.ite (.t 20)
     (.seq
      (.reg [
        ⟨(some 6), none, .mv (.c (.s []))⟩,
        ⟨(some 7), none, .mv (.c (.i .i64 1))⟩])
      .ret)
     .skip))
   (.seq
    (.seq
     (.reg [
       ⟨(some 21), none, .mv (.t 0)⟩,
       ⟨(some 22), none, .len 1 (.t 21)⟩,
       ⟨(some 23), none, .mv (.t 1)⟩,
       ⟨(some 24), none, .bin .sub (.t 22) (.t 23)⟩,
       ⟨(some 25), none, .mv (.t 2)⟩,
       ⟨(some 26), none, .bin .lss (.t 24) (.t 25)⟩])
     (.ite (.t 26)
      (.seq
       (.reg [
         ⟨(some 6), none, .mv (.c (.s []))⟩,
         ⟨(some 7), none, .mv (.c (.i .i64 6))⟩])
       .ret)
      .skip))
    (.seq
     (.reg [
       ⟨(some 27), none, .mv (.t 0)⟩,
       ⟨(some 28), none, .mv (.t 1)⟩,
       ⟨(some 29), none, .mv (.t 1)⟩,
       ⟨(some 30), none, .mv (.t 2)⟩,
       ⟨(some 31), none, .bin .add (.t 29) (.t 30)⟩,
       ⟨(some 32), none, .slcs (.t 27) (some (.t 28)) (some (.t 31))⟩,
       ⟨(some 6), none, .mv (.t 32)⟩,
       ⟨(some 7), none, .mv (.c (.i .i64 0))⟩])
     .ret))))
def ref02_taken.r : List Rr := [.tmp 6, .tmp 7]
abbrev ref02_taken.n : Nat := 33
def ref02_number.c : C :=
 (.seq
  (.reg [
    ⟨(some 2), none, .mv (.c (.i .u64 0))⟩])
  (.seq
   (.reg [
     ⟨(some 3), none, .mv (.c (.i .u64 0))⟩])
   (.seq
    (.seq
     (.reg [
       ⟨(some 4), none, .mv (.c (.i .i64 0))⟩])
     (.blk 0
      (.loop
       (.seq
        (.seq
         (.reg [
           ⟨(some 5), none, .mv (.t 4)⟩,
           ⟨(some 6), none, .mv (.t 0)⟩,
           ⟨(some 7), none, .len 1 (.t 6)⟩,
           ⟨(some 8), none, .bin .lss (.t 5) (.t 7)⟩])
         (.ite (.t 8)
          .skip
          (.exit 0)))
        (.seq
         (.blk 1
          (.reg [
            ⟨(some 11), none, .mv (.t 3)⟩,
            ⟨(some 12), none, .bin .mul (.t 11) (.c (.i .u64 256))⟩,
            ⟨(some 13), none, .mv (.t 0)⟩,
            ⟨(some 14), none, .mv (.t 4)⟩,
            ⟨(some 15), none, .ixs (.t 13) (.t 14)⟩,
            ⟨(some 16), none, .cvi .u64 (.t 15)⟩,
            ⟨(some 17), none, .bin .add (.t 12) (.t 16)⟩,
            ⟨(some 3), none, .mv (.t 17)⟩]))
         (.reg [
           ⟨(some 9), none, .mv (.t 4)⟩,
           ⟨(some 10), none, .bin .add (.t 9) (.c (.i .i64 1))⟩,
           ⟨(some 4), none, .mv (.t 10)⟩]))))))
    (.seq
     (.reg [
       ⟨(some 18), none, .mv (.t 3)⟩,
       ⟨(some 2), none, .mv (.t 18)⟩])
     .ret))))
def ref02_number.r : List Rr := [.tmp 2]
abbrev ref02_number.n : Nat := 19
def ref02_TakeUint.c (ref02_taken ref02_number : FuncId) : C :=
 (.seq
  (.reg [
    ⟨(some 6), none, .mv (.c (.i .i64 0))⟩,
    ⟨(some 7), none, .mv (.c (.i .i64 0))⟩,
    ⟨(some 8), none, .mv (.c (.i .i64 0))⟩])
  (.seq
   (.reg [
     ⟨(some 13), none, .mv (.t 0)⟩,
     ⟨(some 14), none, .mv (.t 1)⟩,
     ⟨(some 15), none, .mv (.t 2)⟩,
     ⟨(some 16), none, .call ref02_taken [(.t 13), (.t 14), (.t 15)]⟩,
     ⟨(some 12), none, .mv (.t 16)⟩,
     ⟨(some 17), none, .ext (.t 12) 0⟩,
     ⟨(some 18), none, .ext (.t 12) 1⟩,
     ⟨(some 9), none, .mv (.t 17)⟩,
     ⟨(some 10), none, .mv (.t 18)⟩])
   (.seq
    (.seq
     (.reg [
       ⟨(some 19), none, .mv (.t 10)⟩,
       ⟨(some 20), none, .bin .neq (.t 19) (.c (.i .i64 0))⟩])
     (.ite (.t 20)
      (.seq
       (.reg [
         ⟨(some 21), none, .mv (.t 10)⟩,
         ⟨(some 6), none, .mv (.c (.i .i64 0))⟩,
         ⟨(some 7), none, .mv (.c (.i .i64 0))⟩,
         ⟨(some 8), none, .mv (.t 21)⟩])
       .ret)
      .skip))
    (.seq
     (.reg [
       ⟨(some 22), none, .mv (.t 9)⟩,
       ⟨(some 23), none, .call ref02_number [(.t 22)]⟩,
       ⟨(some 11), none, .mv (.t 23)⟩])
     (.seq
      (.seq
       (.reg [
         ⟨(some 24), none, .mv (.t 11)⟩,
         ⟨(some 25), none, .bin .geq (.t 24) (.c (.i .u64 9223372036854775808))⟩])
       (.ite (.t 25)
        (.seq
         (.reg [
           ⟨(some 6), none, .mv (.c (.i .i64 0))⟩,
           ⟨(some 7), none, .mv (.c (.i .i64 0))⟩,
           ⟨(some 8), none, .mv (.c (.i .i64 3))⟩])
         .ret)
        .skip))
      (.seq
       (.reg [
         ⟨(some 26), none, .mv (.t 11)⟩,
         ⟨(some 27), none, .cvi .i64 (.t 26)⟩,
         ⟨(some 28), none, .mv (.t 1)⟩,
         ⟨(some 29), none, .mv (.t 2)⟩,
         ⟨(some 30), none, .bin .add (.t 28) (.t 29)⟩,
         ⟨(some 6), none, .mv (.t 27)⟩,
         ⟨(some 7), none, .mv (.t 30)⟩,
         ⟨(some 8), none, .mv (.c (.i .i64 0))⟩])
       .ret))))))
def ref02_TakeUint.r : List Rr := [.tmp 6, .tmp 7, .tmp 8]
abbrev ref02_TakeUint.n : Nat := 31
def ref02_TakeInt.c (ref02_taken ref02_number : FuncId) : C :=
 (.seq
  (.reg [
    ⟨(some 6), none, .mv (.c (.i .i64 0))⟩,
    ⟨(some 7), none, .mv (.c (.i .i64 0))⟩,
    ⟨(some 8), none, .mv (.c (.i .i64 0))⟩])
  (.seq
   (.reg [
     ⟨(some 13), none, .mv (.t 0)⟩,
     ⟨(some 14), none, .mv (.t 1)⟩,
     ⟨(some 15), none, .mv (.t 2)⟩,
     ⟨(some 16), none, .call ref02_taken [(.t 13), (.t 14), (.t 15)]⟩,
     ⟨(some 12), none, .mv (.t 16)⟩,
     ⟨(some 17), none, .ext (.t 12) 0⟩,
     ⟨(some 18), none, .ext (.t 12) 1⟩,
     ⟨(some 9), none, .mv (.t 17)⟩,
     ⟨(some 10), none, .mv (.t 18)⟩])
   (.seq
    (.seq
     (.reg [
       ⟨(some 19), none, .mv (.t 10)⟩,
       ⟨(some 20), none, .bin .neq (.t 19) (.c (.i .i64 0))⟩])
     (.ite (.t 20)
      (.seq
       (.reg [
         ⟨(some 21), none, .mv (.t 10)⟩,
         ⟨(some 6), none, .mv (.c (.i .i64 0))⟩,
         ⟨(some 7), none, .mv (.c (.i .i64 0))⟩,
         ⟨(some 8), none, .mv (.t 21)⟩])
       .ret)
      .skip))
    (.seq
     (.reg [
       ⟨(some 22), none, .mv (.t 9)⟩,
       ⟨(some 23), none, .call ref02_number [(.t 22)]⟩,
       ⟨(some 11), none, .mv (.t 23)⟩])
     (.seq
      (.seq
       (.reg [
         ⟨(some 24), none, .mv (.t 2)⟩,
         ⟨(some 25), none, .bin .lss (.t 24) (.c (.i .i64 8))⟩,
         ⟨(some 26), none, .mv (.t 25)⟩,
         ⟨(some 27), (some (26, true)), .mv (.t 9)⟩,
         ⟨(some 28), (some (26, true)), .ixs (.t 27) (.c (.i .i64 0))⟩,
         ⟨(some 29), (some (26, true)), .bin .geq (.t 28) (.c (.i .u8 128))⟩,
         ⟨(some 30), none, .pick (.t 26) (.t 29) (.c (.b false))⟩])
       (.ite (.t 30)
        (.seq
         (.reg [
           ⟨(some 31), none, .mv (.t 11)⟩,
           ⟨(some 32), none, .cvi .i64 (.t 31)⟩,
           ⟨(some 33), none, .mv (.t 2)⟩,
           ⟨(some 34), none, .bin .mul (.c (.i .i64 8)) (.t 33)⟩,
           ⟨(some 35), none, .cvi .u64 (.t 34)⟩,
           ⟨(some 36), none, .bin .shl (.c (.i .i64 1)) (.t 35)⟩,
           ⟨(some 37), none, .bin .sub (.t 32) (.t 36)⟩,
           ⟨(some 38), none, .mv (.t 1)⟩,
           ⟨(some 39), none, .mv (.t 2)⟩,
           ⟨(some 40), none, .bin .add (.t 38) (.t 39)⟩,
           ⟨(some 6), none, .mv (.t 37)⟩,
           ⟨(some 7), none, .mv (.t 40)⟩,
           ⟨(some 8), none, .mv (.c (.i .i64 0))⟩])
         .ret)
        .skip))
      (.seq
       (.reg [
         ⟨(some 41), none, .mv (.t 11)⟩,
         ⟨(some 42), none, .cvi .i64 (.t 41)⟩,
         ⟨(some 43), none, .mv (.t 1)⟩,
         ⟨(some 44), none, .mv (.t 2)⟩,
         ⟨(some 45), none, .bin .add (.t 43) (.t 44)⟩,
         ⟨(some 6), none, .mv (.t 42)⟩,
         ⟨(some 7), none, .mv (.t 45)⟩,
         ⟨(some 8), none, .mv (.c (.i .i64 0))⟩])
       .ret))))))
def ref02_TakeInt.r : List Rr := [.tmp 6, .tmp 7, .tmp 8]
abbrev ref02_TakeInt.n : Nat := 46
def ref52_number.c (ref02_TakeUint : FuncId) : C :=
 (.seq
  (.reg [
    ⟨(some 6), none, .mv (.c (.i .i64 0))⟩])
  (.seq
   (.reg [
     ⟨(some 11), none, .mv (.t 0)⟩,
     ⟨(some 12), none, .mv (.t 1)⟩,
     ⟨(some 13), none, .mv (.t 2)⟩,
     ⟨(some 14), none, .call ref02_TakeUint [(.t 11), (.t 12), (.t 13)]⟩,
     ⟨(some 10), none, .mv (.t 14)⟩,
     ⟨(some 15), none, .ext (.t 10) 0⟩,
     ⟨(some 16), none, .ext (.t 10) 1⟩,
     ⟨(some 17), none, .ext (.t 10) 2⟩,
     ⟨(some 7), none, .mv (.t 15)⟩,
     ⟨(some 8), none, .mv (.t 16)⟩,
     ⟨(some 9), none, .mv (.t 17)⟩])
   (.seq
    (.reg [
      ⟨(some 18), none, .mv (.t 7)⟩,
      ⟨(some 6), none, .mv (.t 18)⟩])
    .ret)))
def ref52_number.r : List Rr := [.tmp 6]
abbrev ref52_number.n : Nat := 19
def ref52_four.c (ref02_TakeInt : FuncId) : C :=
 (.seq
  (.reg [
    ⟨(some 4), none, .alloc [(.i .i64 0), (.i .i64 0), (.i .i64 0), (.i .i64 0)]⟩])
  (.seq
   (.reg [
     ⟨(some 5), none, .alloc [(.i .i64 0), (.i .i64 0), (.i .i64 0), (.i .i64 0)]⟩])
   (.seq
    (.seq
     (.reg [
       ⟨(some 6), none, .mv (.c (.i .i64 0))⟩])
     (.blk 0
      (.loop
       (.seq
        (.seq
         (.reg [
           ⟨(some 10), none, .mv (.t 6)⟩,
           ⟨(some 11), none, .bin .lss (.t 10) (.c (.i .i64 4))⟩])
         (.ite (.t 11)
          .skip
          (.exit 0)))
        (.seq
         (.blk 1
          (.seq
           (.reg [
             ⟨(some 15), none, .mv (.t 0)⟩,
             ⟨(some 16), none, .mv (.t 1)⟩,
             ⟨(some 17), none, .mv (.t 6)⟩,
             ⟨(some 18), none, .bin .mul (.c (.i .i64 4)) (.t 17)⟩,
             ⟨(some 19), none, .bin .add (.t 16) (.t 18)⟩,
             ⟨(some 20), none, .call ref02_TakeInt [(.t 15), (.t 19), (.c (.i .i64 4))]⟩,
             ⟨(some 14), none, .mv (.t 20)⟩,
             ⟨(some 21), none, .ext (.t 14) 0⟩,
             ⟨(some 22), none, .ext (.t 14) 1⟩,
             ⟨(some 23), none, .ext (.t 14) 2⟩,
             ⟨(some 7), none, .mv (.t 21)⟩,
             ⟨(some 8), none, .mv (.t 22)⟩,
             ⟨(some 9), none, .mv (.t 23)⟩])
           (.reg [
             ⟨(some 24), none, .mv (.t 6)⟩,
             ⟨(some 25), none, .mv (.t 7)⟩,
             ⟨(some 26), none, .iaa 4 1 (.t 5) (.t 24)⟩,
             ⟨none, none, .st 1 (.t 26) (.t 25)⟩])))
         (.reg [
           ⟨(some 12), none, .mv (.t 6)⟩,
           ⟨(some 13), none, .bin .add (.t 12) (.c (.i .i64 1))⟩,
           ⟨(some 6), none, .mv (.t 13)⟩]))))))
    (.seq
     (.reg [
       ⟨(some 27), none, .ld (some 4) (.t 5)⟩,
       ⟨none, none, .st 4 (.t 4) (.t 27)⟩])
     .ret))))
def ref52_four.r : List Rr := [.cell 4 (some 4)]
abbrev ref52_four.n : Nat := 28
def ref52_Decode.c (ref52_number ref52_four ref52_Encode : FuncId) : C :=
 (.seq
  (.reg [
    ⟨(some 2), none, .alloc [(.i .i64 0), (.i .i64 0), (.i .i64 0), (.i .i64 0), (.i .i64 0), (.i .i64 0), (.i .i64 0), (.i .i64 0), (.i .i64 0), (.i .i64 0), (.i .i64 0), (.i .i64 0)]⟩,
    ⟨(some 3), none, .mv (.c (.i .i64 0))⟩])
  (.seq
   (.seq
    (.reg [
      ⟨(some 7), none, .mv (.t 0)⟩,
      ⟨(some 8), none, .len 1 (.t 7)⟩,
      ⟨(some 9), none, .bin .lss (.t 8) (.c (.i .i64 64))⟩])
    (.ite (.t 9)
     (.seq
      (.reg [
        ⟨(some 10), none, .build [(.i .i64 0), (.i .i64 0), (.i .i64 0), (.i .i64 0), (.i .i64 0), (.i .i64 0), (.i .i64 0), (.i .i64 0), (.i .i64 0), (.i .i64 0), (.i .i64 0), (.i .i64 0)] []⟩,
        ⟨none, none, .st 12 (.t 2) (.t 10)⟩,
        ⟨(some 3), none, .mv (.c (.i .i64 6))⟩])
      .ret)
     .skip))
   (.seq
    (.reg [
      ⟨(some 11), none, .mv (.t 0)⟩,
      ⟨(some 12), none, .call ref52_number [(.t 11), (.c (.i .i64 0)), (.c (.i .i64 6))]⟩,
      ⟨(some 13), none, .mv (.t 0)⟩,
      ⟨(some 14), none, .call ref52_number [(.t 13), (.c (.i .i64 6)), (.c (.i .i64 1))]⟩,
      ⟨(some 15), none, .mv (.t 0)⟩,
      ⟨(some 16), none, .call ref52_number [(.t 15), (.c (.i .i64 7)), (.c (.i .i64 6))]⟩,
      ⟨(some 17), none, .mv (.t 0)⟩,
      ⟨(some 18), none, .call ref52_number [(.t 17), (.c (.i .i64 13)), (.c (.i .i64 4))]⟩,
      ⟨(some 19), none, .mv (.t 0)⟩,
      ⟨(some 20), none, .call ref52_four [(.t 19), (.c (.i .i64 17))]⟩,
      ⟨(some 21), none, .mv (.t 0)⟩,
      ⟨(some 22), none, .call ref52_four [(.t 21), (.c (.i .i64 33))]⟩,
      ⟨(some 23), none, .build [(.i .i64 0), (.i .i64 0), (.i .i64 0), (.i .i64 0), (.i .i64 0), (.i .i64 0), (.i .i64 0), (.i .i64 0), (.i .i64 0), (.i .i64 0), (.i .i64 0), (.i .i64 0)] [(1, 1, (.t 12)), (0, 1, (.t 14)), (2, 1, (.t 16)), (3, 1, (.t 18)), (4, 4, (.t 20)), (8, 4, (.t 22))]⟩,
      ⟨(some 4), none, .alloc [(.i .i64 0), (.i .i64 0), (.i .i64 0), (.i .i64 0), (.i .i64 0), (.i .i64 0), (.i .i64 0), (.i .i64 0), (.i .i64 0), (.i .i64 0), (.i .i64 0), (.i .i64 0)]⟩,
      ⟨none, none, .st 12 (.t 4) (.t 23)⟩])
    (.seq
     (.reg [
       ⟨(some 25), none, .ld (some 12) (.t 4)⟩,
       ⟨(some 26), none, .call ref52_Encode [(.t 25)]⟩,
       ⟨(some 24), none, .mv (.t 26)⟩,
       ⟨(some 27), none, .ext (.t 24) 0⟩,
       ⟨(some 28), none, .ext (.t 24) 1⟩,
       ⟨(some 5), none, .mv (.t 27)⟩,
       ⟨(some 6), none, .mv (.t 28)⟩])
     (.seq
      (.seq
       (.reg [
         ⟨(some 29), none, .mv (.t 6)⟩,
         ⟨(some 30), none, .bin .neq (.t 29) (.c (.i .i64 0))⟩,
         ⟨(some 31), none, .mv (.t 30)⟩,
         ⟨(some 32), (some (31, false)), .mv (.t 0)⟩,
         ⟨(some 33), (some (31, false)), .mv (.t 5)⟩,
         ⟨(some 34), (some (31, false)), .bin .neq (.t 32) (.t 33)⟩,
         ⟨(some 35), none, .pick (.t 31) (.c (.b true)) (.t 34)⟩])
       (.ite (.t 35)
        (.seq
         (.reg [
           ⟨(some 36), none, .build [(.i .i64 0), (.i .i64 0), (.i .i64 0), (.i .i64 0), (.i .i64 0), (.i .i64 0), (.i .i64 0), (.i .i64 0), (.i .i64 0), (.i .i64 0), (.i .i64 0), (.i .i64 0)] []⟩,
           ⟨none, none, .st 12 (.t 2) (.t 36)⟩,
           ⟨(some 3), none, .mv (.c (.i .i64 19))⟩])
         .ret)
        .skip))
      (.seq
       (.reg [
         ⟨(some 37), none, .ld (some 12) (.t 4)⟩,
         ⟨none, none, .st 12 (.t 2) (.t 37)⟩,
         ⟨(some 3), none, .mv (.c (.i .i64 0))⟩])
       .ret))))))
def ref52_Decode.r : List Rr := [.cell 2 (some 12), .tmp 3]
abbrev ref52_Decode.n : Nat := 38
def law52_awake.c (journal_Encode journal_Decode : FuncId) : C :=
 (.seq
  (.reg [
    ⟨(some 0), none, .mv (.c (.b false))⟩])
  (.seq
   (.reg [
     ⟨(some 6), none, .build [(.i .i64 0), (.i .i64 0), (.i .i64 0), (.i .i64 0), (.i .i64 0), (.i .i64 0), (.i .i64 0), (.i .i64 0), (.i .i64 0), (.i .i64 0), (.i .i64 0), (.i .i64 0)] [(0, 1, (.c (.i .i64 1))), (1, 1, (.c (.i .i64 258)))]⟩,
     ⟨(some 1), none, .alloc [(.i .i64 0), (.i .i64 0), (.i .i64 0), (.i .i64 0), (.i .i64 0), (.i .i64 0), (.i .i64 0), (.i .i64 0), (.i .i64 0), (.i .i64 0), (.i .i64 0), (.i .i64 0)]⟩,
     ⟨none, none, .st 12 (.t 1) (.t 6)⟩])
   (.seq
    (.reg [
      ⟨(some 8), none, .ld (some 12) (.t 1)⟩,
      ⟨(some 9), none, .call journal_Encode [(.t 8)]⟩,
      ⟨(some 7), none, .mv (.t 9)⟩,
      ⟨(some 10), none, .ext (.t 7) 0⟩,
      ⟨(some 11), none, .ext (.t 7) 1⟩,
      ⟨(some 2), none, .mv (.t 10)⟩,
      ⟨(some 3), none, .mv (.t 11)⟩])
    (.seq
     (.seq
      (.reg [
        ⟨(some 12), none, .mv (.t 3)⟩,
        ⟨(some 13), none, .bin .neq (.t 12) (.c (.i .i64 0))⟩,
        ⟨(some 14), none, .mv (.t 13)⟩,
        ⟨(some 15), (some (14, false)), .mv (.t 2)⟩,
        ⟨(some 16), (some (14, false)), .len 1 (.t 15)⟩,
        ⟨(some 17), (some (14, false)), .bin .neq (.t 16) (.c (.i .i64 64))⟩,
        ⟨(some 18), none, .pick (.t 14) (.c (.b true)) (.t 17)⟩,
        ⟨(some 19), none, .mv (.t 18)⟩,
        ⟨(some 20), (some (19, false)), .mv (.t 2)⟩,
        ⟨(some 21), (some (19, false)), .slcs (.t 20) none (some (.c (.i .i64 7)))⟩,
        ⟨(some 22), (some (19, false)), .bin .neq (.t 21) (.c (.s [0, 0, 0, 0, 1, 2, 1]))⟩,
        ⟨(some 23), none, .pick (.t 19) (.c (.b true)) (.t 22)⟩,
        ⟨(some 24), none, .mv (.t 23)⟩,
        ⟨(some 25), (some (24, false)), .mv (.t 2)⟩,
        ⟨(some 26), (some (24, false)), .slcs (.t 25) (some (.c (.i .i64 58))) none⟩,
        ⟨(some 27), (some (24, false)), .bin .neq (.t 26) (.c (.s [0, 0, 0, 0, 1, 2]))⟩,
        ⟨(some 28), none, .pick (.t 24) (.c (.b true)) (.t 27)⟩])
      (.ite (.t 28)
       (.seq
        (.reg [
          ⟨(some 0), none, .mv (.c (.b false))⟩])
        .ret)
       .skip))
     (.seq
      (.reg [
        ⟨(some 30), none, .mv (.t 2)⟩,
        ⟨(some 31), none, .call journal_Decode [(.t 30)]⟩,
        ⟨(some 29), none, .mv (.t 31)⟩,
        ⟨(some 32), none, .ext (.t 29) 0⟩,
        ⟨(some 33), none, .ext (.t 29) 1⟩,
        ⟨(some 4), none, .alloc [(.i .i64 0), (.i .i64 0), (.i .i64 0), (.i .i64 0), (.i .i64 0), (.i .i64 0), (.i .i64 0), (.i .i64 0), (.i .i64 0), (.i .i64 0), (.i .i64 0), (.i .i64 0)]⟩,
        ⟨none, none, .st 12 (.t 4) (.t 32)⟩,
        ⟨(some 5), none, .mv (.t 33)⟩])
      (.seq
       (.reg [
         ⟨(some 34), none, .mv (.t 5)⟩,
         ⟨(some 35), none, .bin .eql (.t 34) (.c (.i .i64 0))⟩,
         ⟨(some 36), none, .mv (.t 35)⟩,
         ⟨(some 37), (some (36, true)), .ld (some 12) (.t 4)⟩,
         ⟨(some 38), (some (36, true)), .ld (some 12) (.t 1)⟩,
         ⟨(some 39), (some (36, true)), .eqa [1, 1, 1, 1, 1, 1, 1, 1, 1, 1, 1, 1] false (.t 37) (.t 38)⟩,
         ⟨(some 40), none, .pick (.t 36) (.t 39) (.c (.b false))⟩,
         ⟨(some 0), none, .mv (.t 40)⟩])
       .ret))))))
def law52_awake.r : List Rr := [.tmp 0]
abbrev law52_awake.n : Nat := 41
def law52_JournalRecords.c (journal_Encode ref52_Encode journal_Valid ref52_Valid law52_awake : FuncId) : C :=
 (.seq
  (.reg [
    ⟨(some 1), none, .box (.t 0)⟩,
    ⟨(some 2), none, .mv (.c (.b false))⟩])
  (.seq
   (.reg [
     ⟨(some 8), none, .ld (some 12) (.t 1)⟩,
     ⟨(some 9), none, .call journal_Encode [(.t 8)]⟩,
     ⟨(some 7), none, .mv (.t 9)⟩,
     ⟨(some 10), none, .ext (.t 7) 0⟩,
     ⟨(some 11), none, .ext (.t 7) 1⟩,
     ⟨(some 3), none, .mv (.t 10)⟩,
     ⟨(some 4), none, .mv (.t 11)⟩])
   (.seq
    (.reg [
      ⟨(some 13), none, .ld (some 12) (.t 1)⟩,
      ⟨(some 14), none, .call ref52_Encode [(.t 13)]⟩,
      ⟨(some 12), none, .mv (.t 14)⟩,
      ⟨(some 15), none, .ext (.t 12) 0⟩,
      ⟨(some 16), none, .ext (.t 12) 1⟩,
      ⟨(some 5), none, .mv (.t 15)⟩,
      ⟨(some 6), none, .mv (.t 16)⟩])
    (.seq
     (.drw [
       ⟨(some 17), none, .ld (some 12) (.t 1)⟩,
       ⟨(some 18), none, .call journal_Valid [(.t 17)]⟩,
       ⟨(some 19), none, .ld (some 12) (.t 1)⟩,
       ⟨(some 20), none, .call ref52_Valid [(.t 19)]⟩,
       ⟨(some 21), none, .eqb false (.t 18) (.t 20)⟩,
       ⟨(some 22), none, .mv (.t 21)⟩,
       ⟨(some 23), (some (22, true)), .mv (.t 3)⟩,
       ⟨(some 24), (some (22, true)), .mv (.t 5)⟩,
       ⟨(some 25), (some (22, true)), .bin .eql (.t 23) (.t 24)⟩,
       ⟨(some 26), none, .pick (.t 22) (.t 25) (.c (.b false))⟩,
       ⟨(some 27), none, .mv (.t 26)⟩,
       ⟨(some 28), (some (27, true)), .mv (.t 4)⟩,
       ⟨(some 29), (some (27, true)), .mv (.t 6)⟩,
       ⟨(some 30), (some (27, true)), .bin .eql (.t 28) (.t 29)⟩,
       ⟨(some 31), none, .pick (.t 27) (.t 30) (.c (.b false))⟩,
       ⟨(some 32), none, .mv (.t 31)⟩,
       ⟨(some 33), (some (32, true)), .call law52_awake []⟩,
       ⟨(some 34), none, .pick (.t 32) (.t 33) (.c (.b false))⟩,
       ⟨(some 2), none, .mv (.t 34)⟩] [[], [], [1], [], [], [], [], [], [], [], [], [], [], [], [], [], [], [], []])
     .ret))))
def law52_JournalRecords.r : List Rr := [.tmp 2]
abbrev law52_JournalRecords.n : Nat := 35
def law52_JournalDecodes.c (law52_awake journal_Decode ref52_Decode : FuncId) : C :=
 (.seq
  (.reg [
    ⟨(some 2), none, .mv (.c (.b false))⟩])
  (.seq
   (.seq
    (.reg [
      ⟨(some 7), none, .mv (.t 0)⟩,
      ⟨(some 8), none, .len 1 (.t 7)⟩,
      ⟨(some 9), none, .bin .gtr (.t 8) (.c (.i .i64 300))⟩])
    (.ite (.t 9)
     (.seq
      (.reg [
        ⟨(some 10), none, .call law52_awake []⟩,
        ⟨(some 2), none, .mv (.t 10)⟩])
      .ret)
     .skip))
   (.seq
    (.reg [
      ⟨(some 12), none, .mv (.t 0)⟩,
      ⟨(some 13), none, .call journal_Decode [(.t 12)]⟩,
      ⟨(some 11), none, .mv (.t 13)⟩,
      ⟨(some 14), none, .ext (.t 11) 0⟩,
      ⟨(some 15), none, .ext (.t 11) 1⟩,
      ⟨(some 3), none, .alloc [(.i .i64 0), (.i .i64 0), (.i .i64 0), (.i .i64 0), (.i .i64 0), (.i .i64 0), (.i .i64 0), (.i .i64 0), (.i .i64 0), (.i .i64 0), (.i .i64 0), (.i .i64 0)]⟩,
      ⟨none, none, .st 12 (.t 3) (.t 14)⟩,
      ⟨(some 4), none, .mv (.t 15)⟩])
    (.seq
     (.reg [
       ⟨(some 17), none, .mv (.t 0)⟩,
       ⟨(some 18), none, .call ref52_Decode [(.t 17)]⟩,
       ⟨(some 16), none, .mv (.t 18)⟩,
       ⟨(some 19), none, .ext (.t 16) 0⟩,
       ⟨(some 20), none, .ext (.t 16) 1⟩,
       ⟨(some 5), none, .alloc [(.i .i64 0), (.i .i64 0), (.i .i64 0), (.i .i64 0), (.i .i64 0), (.i .i64 0), (.i .i64 0), (.i .i64 0), (.i .i64 0), (.i .i64 0), (.i .i64 0), (.i .i64 0)]⟩,
       ⟨none, none, .st 12 (.t 5) (.t 19)⟩,
       ⟨(some 6), none, .mv (.t 20)⟩])
     (.seq
      (.reg [
        ⟨(some 21), none, .ld (some 12) (.t 3)⟩,
        ⟨(some 22), none, .ld (some 12) (.t 5)⟩,
        ⟨(some 23), none, .eqa [1, 1, 1, 1, 1, 1, 1, 1, 1, 1, 1, 1] false (.t 21) (.t 22)⟩,
        ⟨(some 24), none, .mv (.t 23)⟩,
        ⟨(some 25), (some (24, true)), .mv (.t 4)⟩,
        ⟨(some 26), (some (24, true)), .mv (.t 6)⟩,
        ⟨(some 27), (some (24, true)), .bin .eql (.t 25) (.t 26)⟩,
        ⟨(some 28), none, .pick (.t 24) (.t 27) (.c (.b false))⟩,
        ⟨(some 29), none, .mv (.t 28)⟩,
        ⟨(some 30), (some (29, true)), .call law52_awake []⟩,
        ⟨(some 31), none, .pick (.t 29) (.t 30) (.c (.b false))⟩,
        ⟨(some 2), none, .mv (.t 31)⟩])
      .ret)))))
def law52_JournalDecodes.r : List Rr := [.tmp 2]
abbrev law52_JournalDecodes.n : Nat := 32
def law52_JournalRoundTrips.c (journal_Encode journal_Decode journal_Valid law52_awake : FuncId) : C :=
 (.seq
  (.reg [
    ⟨(some 2), none, .box (.t 0)⟩,
    ⟨(some 4), none, .mv (.c (.b false))⟩])
  (.seq
   (.seq
    (.reg [
      ⟨(some 14), none, .ld (some 12) (.t 2)⟩,
      ⟨(some 15), none, .call journal_Encode [(.t 14)]⟩,
      ⟨(some 13), none, .mv (.t 15)⟩,
      ⟨(some 16), none, .ext (.t 13) 0⟩,
      ⟨(some 17), none, .ext (.t 13) 1⟩,
      ⟨(some 5), none, .mv (.t 16)⟩,
      ⟨(some 6), none, .mv (.t 17)⟩])
    (.seq
     (.reg [
       ⟨(some 18), none, .mv (.t 6)⟩,
       ⟨(some 19), none, .bin .eql (.t 18) (.c (.i .i64 0))⟩])
     (.ite (.t 19)
      (.seq
       (.reg [
         ⟨(some 21), none, .mv (.t 5)⟩,
         ⟨(some 22), none, .call journal_Decode [(.t 21)]⟩,
         ⟨(some 20), none, .mv (.t 22)⟩,
         ⟨(some 23), none, .ext (.t 20) 0⟩,
         ⟨(some 24), none, .ext (.t 20) 1⟩,
         ⟨(some 7), none, .alloc [(.i .i64 0), (.i .i64 0), (.i .i64 0), (.i .i64 0), (.i .i64 0), (.i .i64 0), (.i .i64 0), (.i .i64 0), (.i .i64 0), (.i .i64 0), (.i .i64 0), (.i .i64 0)]⟩,
         ⟨none, none, .st 12 (.t 7) (.t 23)⟩,
         ⟨(some 8), none, .mv (.t 24)⟩])
       (.seq
        (.reg [
          ⟨(some 25), none, .ld (some 12) (.t 7)⟩,
          ⟨(some 26), none, .ld (some 12) (.t 2)⟩,
          ⟨(some 27), none, .eqa [1, 1, 1, 1, 1, 1, 1, 1, 1, 1, 1, 1] true (.t 25) (.t 26)⟩,
          ⟨(some 28), none, .mv (.t 27)⟩,
          ⟨(some 29), (some (28, false)), .mv (.t 8)⟩,
          ⟨(some 30), (some (28, false)), .bin .neq (.t 29) (.c (.i .i64 0))⟩,
          ⟨(some 31), none, .pick (.t 28) (.c (.b true)) (.t 30)⟩,
          ⟨(some 32), none, .mv (.t 31)⟩,
          ⟨(some 33), (some (32, false)), .mv (.t 5)⟩,
          ⟨(some 34), (some (32, false)), .len 1 (.t 33)⟩,
          ⟨(some 35), (some (32, false)), .bin .neq (.t 34) (.c (.i .i64 64))⟩,
          ⟨(some 36), none, .pick (.t 32) (.c (.b true)) (.t 35)⟩,
          ⟨(some 37), none, .mv (.t 36)⟩,
          ⟨(some 38), (some (37, false)), .ld (some 12) (.t 2)⟩,
          ⟨(some 39), (some (37, false)), .call journal_Valid [(.t 38)]⟩,
          ⟨(some 40), (some (37, false)), .un .not (.t 39)⟩,
          ⟨(some 41), none, .pick (.t 37) (.c (.b true)) (.t 40)⟩])
        (.ite (.t 41)
         (.seq
          (.reg [
            ⟨(some 4), none, .mv (.c (.b false))⟩])
          .ret)
         .skip)))
      (.seq
       (.reg [
         ⟨(some 42), none, .ld (some 12) (.t 2)⟩,
         ⟨(some 43), none, .call journal_Valid [(.t 42)]⟩,
         ⟨(some 44), none, .mv (.t 43)⟩,
         ⟨(some 45), (some (44, false)), .mv (.t 6)⟩,
         ⟨(some 46), (some (44, false)), .bin .neq (.t 45) (.c (.i .i64 1))⟩,
         ⟨(some 47), none, .pick (.t 44) (.c (.b true)) (.t 46)⟩])
       (.ite (.t 47)
        (.seq
         (.reg [
           ⟨(some 4), none, .mv (.c (.b false))⟩])
         .ret)
        .skip)))))
   (.seq
    (.seq
     (.reg [
       ⟨(some 48), none, .mv (.t 1)⟩,
       ⟨(some 49), none, .len 1 (.t 48)⟩,
       ⟨(some 50), none, .bin .gtr (.t 49) (.c (.i .i64 300))⟩])
     (.ite (.t 50)
      (.seq
       (.reg [
         ⟨(some 51), none, .call law52_awake []⟩,
         ⟨(some 4), none, .mv (.t 51)⟩])
       .ret)
      .skip))
    (.seq
     (.reg [
       ⟨(some 53), none, .mv (.t 1)⟩,
       ⟨(some 54), none, .call journal_Decode [(.t 53)]⟩,
       ⟨(some 52), none, .mv (.t 54)⟩,
       ⟨(some 55), none, .ext (.t 52) 0⟩,
       ⟨(some 56), none, .ext (.t 52) 1⟩,
       ⟨(some 9), none, .alloc [(.i .i64 0), (.i .i64 0), (.i .i64 0), (.i .i64 0), (.i .i64 0), (.i .i64 0), (.i .i64 0), (.i .i64 0), (.i .i64 0), (.i .i64 0), (.i .i64 0), (.i .i64 0)]⟩,
       ⟨none, none, .st 12 (.t 9) (.t 55)⟩,
       ⟨(some 10), none, .mv (.t 56)⟩])
     (.seq
      (.seq
       (.reg [
         ⟨(some 57), none, .mv (.t 10)⟩,
         ⟨(some 58), none, .bin .neq (.t 57) (.c (.i .i64 0))⟩])
       (.ite (.t 58)
        (.seq
         (.reg [
           ⟨(some 59), none, .ld (some 12) (.t 9)⟩,
           ⟨(some 60), none, .build [(.i .i64 0), (.i .i64 0), (.i .i64 0), (.i .i64 0), (.i .i64 0), (.i .i64 0), (.i .i64 0), (.i .i64 0), (.i .i64 0), (.i .i64 0), (.i .i64 0), (.i .i64 0)] []⟩,
           ⟨(some 61), none, .eqa [1, 1, 1, 1, 1, 1, 1, 1, 1, 1, 1, 1] false (.t 59) (.t 60)⟩,
           ⟨(some 62), none, .mv (.t 61)⟩,
           ⟨(some 63), (some (62, true)), .call law52_awake []⟩,
           ⟨(some 64), none, .pick (.t 62) (.t 63) (.c (.b false))⟩,
           ⟨(some 4), none, .mv (.t 64)⟩])
         .ret)
        .skip))
      (.seq
       (.reg [
         ⟨(some 66), none, .ld (some 12) (.t 9)⟩,
         ⟨(some 67), none, .call journal_Encode [(.t 66)]⟩,
         ⟨(some 65), none, .mv (.t 67)⟩,
         ⟨(some 68), none, .ext (.t 65) 0⟩,
         ⟨(some 69), none, .ext (.t 65) 1⟩,
         ⟨(some 11), none, .mv (.t 68)⟩,
         ⟨(some 12), none, .mv (.t 69)⟩])
       (.seq
        (.reg [
          ⟨(some 70), none, .mv (.t 12)⟩,
          ⟨(some 71), none, .bin .eql (.t 70) (.c (.i .i64 0))⟩,
          ⟨(some 72), none, .mv (.t 71)⟩,
          ⟨(some 73), (some (72, true)), .mv (.t 11)⟩,
          ⟨(some 74), (some (72, true)), .mv (.t 1)⟩,
          ⟨(some 75), (some (72, true)), .bin .eql (.t 73) (.t 74)⟩,
          ⟨(some 76), none, .pick (.t 72) (.t 75) (.c (.b false))⟩,
          ⟨(some 77), none, .mv (.t 76)⟩,
          ⟨(some 78), (some (77, true)), .call law52_awake []⟩,
          ⟨(some 79), none, .pick (.t 77) (.t 78) (.c (.b false))⟩,
          ⟨(some 4), none, .mv (.t 79)⟩])
        .ret)))))))
def law52_JournalRoundTrips.r : List Rr := [.tmp 4]
abbrev law52_JournalRoundTrips.n : Nat := 80
def law52_JournalDamage.c (journal_Encode law52_awake journal_Decode : FuncId) : C :=
 (.seq
  (.reg [
    ⟨(some 3), none, .box (.t 0)⟩,
    ⟨(some 6), none, .mv (.c (.b false))⟩])
  (.seq
   (.reg [
     ⟨(some 13), none, .ld (some 12) (.t 3)⟩,
     ⟨(some 14), none, .call journal_Encode [(.t 13)]⟩,
     ⟨(some 12), none, .mv (.t 14)⟩,
     ⟨(some 15), none, .ext (.t 12) 0⟩,
     ⟨(some 16), none, .ext (.t 12) 1⟩,
     ⟨(some 7), none, .mv (.t 15)⟩,
     ⟨(some 8), none, .mv (.t 16)⟩])
   (.seq
    (.seq
     (.reg [
       ⟨(some 17), none, .mv (.t 8)⟩,
       ⟨(some 18), none, .bin .neq (.t 17) (.c (.i .i64 0))⟩,
       ⟨(some 19), none, .mv (.t 18)⟩,
       ⟨(some 20), (some (19, false)), .mv (.t 7)⟩,
       ⟨(some 21), (some (19, false)), .len 1 (.t 20)⟩,
       ⟨(some 22), (some (19, false)), .bin .neq (.t 21) (.c (.i .i64 64))⟩,
       ⟨(some 23), none, .pick (.t 19) (.c (.b true)) (.t 22)⟩,
       ⟨(some 24), none, .mv (.t 23)⟩,
       ⟨(some 25), (some (24, false)), .mv (.t 2)⟩,
       ⟨(some 26), (some (24, false)), .bin .eql (.t 25) (.c (.i .u8 0))⟩,
       ⟨(some 27), none, .pick (.t 24) (.c (.b true)) (.t 26)⟩])
     (.ite (.t 27)
      (.seq
       (.reg [
         ⟨(some 28), none, .mv (.t 8)⟩,
         ⟨(some 29), none, .bin .eql (.t 28) (.c (.i .i64 0))⟩,
         ⟨(some 30), none, .mv (.t 7)⟩,
         ⟨(some 31), none, .len 1 (.t 30)⟩,
         ⟨(some 32), none, .bin .eql (.t 31) (.c (.i .i64 64))⟩,
         ⟨(some 33), none, .eqb false (.t 29) (.t 32)⟩,
         ⟨(some 34), none, .mv (.t 33)⟩,
         ⟨(some 35), (some (34, true)), .call law52_awake []⟩,
         ⟨(some 36), none, .pick (.t 34) (.t 35) (.c (.b false))⟩,
         ⟨(some 6), none, .mv (.t 36)⟩])
       .ret)
      .skip))
    (.seq
     (.reg [
       ⟨(some 37), none, .mv (.t 7)⟩,
       ⟨(some 38), none, .s2b (.t 37)⟩,
       ⟨(some 9), none, .mv (.t 38)⟩])
     (.seq
      (.reg [
        ⟨(some 39), none, .mv (.t 9)⟩,
        ⟨(some 40), none, .mv (.t 1)⟩,
        ⟨(some 41), none, .cvi .i64 (.t 40)⟩,
        ⟨(some 42), none, .bin .rem (.t 41) (.c (.i .i64 64))⟩,
        ⟨(some 43), none, .ia 1 (.t 39) (.t 42)⟩,
        ⟨(some 44), none, .ld none (.t 43)⟩,
        ⟨(some 45), none, .mv (.t 2)⟩,
        ⟨(some 46), none, .bin .xor (.t 44) (.t 45)⟩,
        ⟨(some 47), none, .ia 1 (.t 39) (.t 42)⟩,
        ⟨none, none, .st 1 (.t 47) (.t 46)⟩])
      (.seq
       (.reg [
         ⟨(some 49), none, .mv (.t 9)⟩,
         ⟨(some 50), none, .b2s (.t 49)⟩,
         ⟨(some 51), none, .call journal_Decode [(.t 50)]⟩,
         ⟨(some 48), none, .mv (.t 51)⟩,
         ⟨(some 52), none, .ext (.t 48) 0⟩,
         ⟨(some 53), none, .ext (.t 48) 1⟩,
         ⟨(some 10), none, .alloc [(.i .i64 0), (.i .i64 0), (.i .i64 0), (.i .i64 0), (.i .i64 0), (.i .i64 0), (.i .i64 0), (.i .i64 0), (.i .i64 0), (.i .i64 0), (.i .i64 0), (.i .i64 0)]⟩,
         ⟨none, none, .st 12 (.t 10) (.t 52)⟩,
         ⟨(some 11), none, .mv (.t 53)⟩])
       (.seq
        (.reg [
          ⟨(some 54), none, .mv (.t 11)⟩,
          ⟨(some 55), none, .bin .eql (.t 54) (.c (.i .i64 19))⟩,
          ⟨(some 56), none, .mv (.t 55)⟩,
          ⟨(some 57), (some (56, true)), .call law52_awake []⟩,
          ⟨(some 58), none, .pick (.t 56) (.t 57) (.c (.b false))⟩,
          ⟨(some 6), none, .mv (.t 58)⟩])
        .ret)))))))
def law52_JournalDamage.r : List Rr := [.tmp 6]
abbrev law52_JournalDamage.n : Nat := 59

end Go.Abs

