/- The code of functions of the program, the functions that they call left open. -/
import Derived.Test.YtlmjnmmppffhaaaGoClone
set_option linter.unusedVariables false
set_option linter.unusedSimpArgs false
namespace Go.Abs

def orient_coherent.c (orient_edges : FuncId) : C :=
 (.seq
  (.reg [
    ⟨(some 2), none, .mv (.c (.b false))⟩])
  (.seq
   (.reg [
     ⟨(some 8), none, .mkm none⟩,
     ⟨(some 3), none, .mv (.t 8)⟩])
   (.seq
    (.seq
     (.reg [
       ⟨(some 9), none, .mv (.t 0)⟩,
       ⟨(some 10), none, .len 0 (.t 9)⟩,
       ⟨(some 11), none, .mv (.c (.i .i64 0))⟩])
     (.blk 0
      (.loop
       (.seq
        (.reg [
          ⟨(some 12), none, .bin .lss (.t 11) (.t 10)⟩])
        (.seq
         (.ite (.t 12)
          .skip
          (.exit 0))
         (.seq
          (.blk 1
           (.seq
            (.reg [
              ⟨(some 13), none, .ia 3 (.t 9) (.t 11)⟩,
              ⟨(some 14), none, .ld (some 3) (.t 13)⟩,
              ⟨(some 5), none, .alloc [(.i .i64 0), (.i .i64 0), (.i .i64 0)]⟩,
              ⟨none, none, .st 3 (.t 5) (.t 14)⟩])
            (.seq
             (.reg [
               ⟨(some 15), none, .ld (some 3) (.t 5)⟩,
               ⟨(some 16), none, .call orient_edges [(.t 15)]⟩,
               ⟨(some 17), none, .len 0 (.t 16)⟩,
               ⟨(some 18), none, .mv (.c (.i .i64 0))⟩])
             (.blk 2
              (.loop
               (.seq
                (.reg [
                  ⟨(some 19), none, .bin .lss (.t 18) (.t 17)⟩])
                (.seq
                 (.ite (.t 19)
                  .skip
                  (.exit 2))
                 (.seq
                  (.blk 3
                   (.seq
                    (.reg [
                      ⟨(some 20), none, .ia 2 (.t 16) (.t 18)⟩,
                      ⟨(some 21), none, .ld (some 2) (.t 20)⟩,
                      ⟨(some 7), none, .alloc [(.i .i64 0), (.i .i64 0)]⟩,
                      ⟨none, none, .st 2 (.t 7) (.t 21)⟩])
                    (.seq
                     (.reg [
                       ⟨(some 22), none, .mv (.t 3)⟩,
                       ⟨(some 23), none, .ld (some 2) (.t 7)⟩,
                       ⟨none, none, .eqa [1, 1] false (.t 23) (.t 23)⟩,
                       ⟨(some 24), none, .lk [1, 1] (.i .i64 0) false (.t 22) (.t 23)⟩,
                       ⟨(some 25), none, .bin .add (.t 24) (.c (.i .i64 1))⟩,
                       ⟨(some 26), none, .ment [1, 1] (.i .i64 0) (.t 22) (.t 23)⟩,
                       ⟨(some 27), none, .ext (.t 26) 1⟩,
                       ⟨none, none, .est (.t 22) (.t 27) (.t 25)⟩])
                     (.seq
                      (.reg [
                        ⟨(some 28), none, .mv (.t 3)⟩,
                        ⟨(some 29), none, .ld (some 2) (.t 7)⟩,
                        ⟨(some 30), none, .lk [1, 1] (.i .i64 0) false (.t 28) (.t 29)⟩,
                        ⟨(some 31), none, .bin .gtr (.t 30) (.c (.i .i64 1))⟩])
                      (.ite (.t 31)
                       (.seq
                        (.reg [
                          ⟨(some 2), none, .mv (.c (.b false))⟩])
                        .ret)
                       .skip)))))
                  (.reg [
                    ⟨(some 32), none, .bin .add (.t 18) (.c (.i .i64 1))⟩,
                    ⟨(some 18), none, .mv (.t 32)⟩])))))))))
          (.reg [
            ⟨(some 33), none, .bin .add (.t 11) (.c (.i .i64 1))⟩,
            ⟨(some 11), none, .mv (.t 33)⟩])))))))
    (.seq
     (.reg [
       ⟨(some 2), none, .mv (.c (.b true))⟩])
     .ret))))
def orient_coherent.r : List Rr := [.tmp 2]
abbrev orient_coherent.n : Nat := 34
def orient_edges.c : C :=
 (.seq
  (.reg [
    ⟨(some 1), none, .box (.t 0)⟩,
    ⟨(some 2), none, .mv (.c .nil)⟩])
  (.seq
   (.reg [
     ⟨(some 3), none, .mv (.c .nil)⟩])
   (.seq
    (.seq
     (.reg [
       ⟨(some 6), none, .fa 0 (.t 1)⟩,
       ⟨(some 7), none, .ld none (.t 6)⟩,
       ⟨(some 8), none, .fa 1 (.t 1)⟩,
       ⟨(some 9), none, .ld none (.t 8)⟩,
       ⟨(some 10), none, .build [(.i .i64 0), (.i .i64 0)] [(0, 1, (.t 7)), (1, 1, (.t 9))]⟩,
       ⟨(some 11), none, .fa 1 (.t 1)⟩,
       ⟨(some 12), none, .ld none (.t 11)⟩,
       ⟨(some 13), none, .fa 2 (.t 1)⟩,
       ⟨(some 14), none, .ld none (.t 13)⟩,
       ⟨(some 15), none, .build [(.i .i64 0), (.i .i64 0)] [(0, 1, (.t 12)), (1, 1, (.t 14))]⟩,
       ⟨(some 16), none, .fa 2 (.t 1)⟩,
       ⟨(some 17), none, .ld none (.t 16)⟩,
       ⟨(some 18), none, .fa 0 (.t 1)⟩,
       ⟨(some 19), none, .ld none (.t 18)⟩,
       ⟨(some 20), none, .build [(.i .i64 0), (.i .i64 0)] [(0, 1, (.t 17)), (1, 1, (.t 19))]⟩,
       ⟨(some 21), none, .build [(.i .i64 0), (.i .i64 0), (.i .i64 0), (.i .i64 0), (.i .i64 0), (.i .i64 0)] [(0, 2, (.t 10)), (2, 2, (.t 15)), (4, 2, (.t 20))]⟩,
       ⟨(some 22), none, .mv (.c (.i .i64 0))⟩])
     (.blk 0
      (.loop
       (.seq
        (.reg [
          ⟨(some 23), none, .bin .lss (.t 22) (.c (.i .i64 3))⟩])
        (.seq
         (.ite (.t 23)
          .skip
          (.exit 0))
         (.seq
          (.blk 1
           (.seq
            (.reg [
              ⟨(some 24), none, .ix 3 2 (some 2) (.t 21) (.t 22)⟩,
              ⟨(some 5), none, .alloc [(.i .i64 0), (.i .i64 0)]⟩,
              ⟨none, none, .st 2 (.t 5) (.t 24)⟩])
            (.seq
             (.reg [
               ⟨(some 25), none, .fa 0 (.t 5)⟩,
               ⟨(some 26), none, .ld none (.t 25)⟩,
               ⟨(some 27), none, .fa 1 (.t 5)⟩,
               ⟨(some 28), none, .ld none (.t 27)⟩,
               ⟨(some 29), none, .bin .neq (.t 26) (.t 28)⟩])
             (.ite (.t 29)
              (.reg [
                ⟨(some 30), none, .mv (.t 3)⟩,
                ⟨(some 31), none, .ld (some 2) (.t 5)⟩,
                ⟨(some 32), none, .bsi 2 1 [(.i .i64 0), (.i .i64 0)] [(0, (.t 31))]⟩,
                ⟨(some 33), none, .app 2 16 (.t 30) (.t 32)⟩,
                ⟨(some 3), none, .mv (.t 33)⟩])
              .skip))))
          (.reg [
            ⟨(some 34), none, .bin .add (.t 22) (.c (.i .i64 1))⟩,
            ⟨(some 22), none, .mv (.t 34)⟩])))))))
    (.seq
     (.reg [
       ⟨(some 35), none, .mv (.t 3)⟩,
       ⟨(some 2), none, .mv (.t 35)⟩])
     .ret))))
def orient_edges.r : List Rr := [.tmp 2]
abbrev orient_edges.n : Nat := 36
end Go.Abs

