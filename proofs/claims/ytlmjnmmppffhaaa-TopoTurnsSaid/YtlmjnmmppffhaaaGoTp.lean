/- The code of functions of the program, the functions that they call left open. -/
import Derived.Test.YtlmjnmmppffhaaaGoHo
import Derived.Test.YtlmjnmmppffhaaaGoTk
set_option linter.unusedVariables false
set_option linter.unusedSimpArgs false
namespace Go.Abs

def topo_Edges.c (topo_counted topo_reverse topo_undirected slices_SortFunc_api_Edge_api_Edge topo_order : FuncId) : C :=
 (.seq
  (.reg [
    ⟨(some 1), none, .box (.t 0)⟩,
    ⟨(some 2), none, .mv (.c .nil)⟩])
  (.seq
   (.reg [
     ⟨(some 6), none, .ld (some 2) (.t 1)⟩,
     ⟨(some 7), none, .call topo_counted [(.t 6)]⟩,
     ⟨(some 3), none, .mv (.t 7)⟩])
   (.seq
    (.reg [
      ⟨(some 4), none, .mv (.c .nil)⟩])
    (.seq
     (.seq
      (.reg [
        ⟨(some 8), none, .mv (.t 3)⟩,
        ⟨(some 9), none, .mrng (.t 8)⟩])
      (.blk 0
       (.loop
        (.seq
         (.reg [
           ⟨(some 10), none, .mnx (.t 9)⟩,
           ⟨(some 11), none, .ext (.t 10) 0⟩])
         (.seq
          (.ite (.t 11)
           .skip
           (.exit 0))
          (.blk 1
           (.seq
            (.reg [
              ⟨(some 12), none, .men (.t 9)⟩,
              ⟨(some 13), none, .ext (.t 12) 0⟩,
              ⟨(some 5), none, .alloc [(.i .i64 0), (.i .i64 0)]⟩,
              ⟨none, none, .st 2 (.t 5) (.t 13)⟩])
            (.seq
             (.reg [
               ⟨(some 14), none, .fa 0 (.t 5)⟩,
               ⟨(some 15), none, .ld none (.t 14)⟩,
               ⟨(some 16), none, .fa 1 (.t 5)⟩,
               ⟨(some 17), none, .ld none (.t 16)⟩,
               ⟨(some 18), none, .bin .lss (.t 15) (.t 17)⟩,
               ⟨(some 19), none, .mv (.t 18)⟩,
               ⟨(some 20), (some (19, false)), .mv (.t 3)⟩,
               ⟨(some 21), (some (19, false)), .ld (some 2) (.t 5)⟩,
               ⟨(some 22), (some (19, false)), .call topo_reverse [(.t 21)]⟩,
               ⟨(some 23), (some (19, false)), .lk [1, 1] (.i .i64 0) false (.t 20) (.t 22)⟩,
               ⟨(some 24), (some (19, false)), .bin .eql (.t 23) (.c (.i .i64 0))⟩,
               ⟨(some 25), none, .pick (.t 19) (.c (.b true)) (.t 24)⟩])
             (.ite (.t 25)
              (.reg [
                ⟨(some 26), none, .mv (.t 4)⟩,
                ⟨(some 27), none, .ld (some 2) (.t 5)⟩,
                ⟨(some 28), none, .call topo_undirected [(.t 27)]⟩,
                ⟨(some 29), none, .bsi 2 1 [(.i .i64 0), (.i .i64 0)] [(0, (.t 28))]⟩,
                ⟨(some 30), none, .app 2 16 (.t 26) (.t 29)⟩,
                ⟨(some 4), none, .mv (.t 30)⟩])
              .skip)))))))))
     (.seq
      (.reg [
        ⟨(some 31), none, .mv (.t 4)⟩,
        ⟨(some 32), none, .call slices_SortFunc_api_Edge_api_Edge [(.t 31), (.c (.f topo_order []))]⟩])
      (.seq
       (.reg [
         ⟨(some 33), none, .mv (.t 4)⟩,
         ⟨(some 2), none, .mv (.t 33)⟩])
       .ret))))))
def topo_Edges.r : List Rr := [.tmp 2]
abbrev topo_Edges.n : Nat := 34
def topo_Euler.c (mesh_Check topo_Edges : FuncId) : C :=
 (.seq
  (.reg [
    ⟨(some 1), none, .box (.t 0)⟩,
    ⟨(some 2), none, .mv (.c (.i .i64 0))⟩])
  (.seq
   (.seq
    (.reg [
      ⟨(some 6), none, .ld (some 2) (.t 1)⟩,
      ⟨(some 7), none, .call mesh_Check [(.t 6)]⟩,
      ⟨(some 8), none, .bin .neq (.t 7) (.c (.i .i64 0))⟩])
    (.ite (.t 8)
     (.seq
      (.reg [
        ⟨(some 2), none, .mv (.c (.i .i64 0))⟩])
      .ret)
     .skip))
   (.seq
    (.reg [
      ⟨(some 9), none, .mkm none⟩,
      ⟨(some 3), none, .mv (.t 9)⟩])
    (.seq
     (.seq
      (.reg [
        ⟨(some 10), none, .fa 1 (.t 1)⟩,
        ⟨(some 11), none, .ld none (.t 10)⟩,
        ⟨(some 12), none, .len 0 (.t 11)⟩,
        ⟨(some 13), none, .mv (.c (.i .i64 0))⟩])
      (.blk 0
       (.loop
        (.seq
         (.reg [
           ⟨(some 14), none, .bin .lss (.t 13) (.t 12)⟩])
         (.seq
          (.ite (.t 14)
           .skip
           (.exit 0))
          (.seq
           (.blk 1
            (.seq
             (.reg [
               ⟨(some 15), none, .ia 3 (.t 11) (.t 13)⟩,
               ⟨(some 16), none, .ld (some 3) (.t 15)⟩,
               ⟨(some 5), none, .alloc [(.i .i64 0), (.i .i64 0), (.i .i64 0)]⟩,
               ⟨none, none, .st 3 (.t 5) (.t 16)⟩])
             (.drw [
               ⟨(some 17), none, .mv (.t 3)⟩,
               ⟨(some 18), none, .fa 0 (.t 5)⟩,
               ⟨(some 19), none, .ld none (.t 18)⟩,
               ⟨(some 20), none, .mv (.t 3)⟩,
               ⟨(some 21), none, .fa 1 (.t 5)⟩,
               ⟨(some 22), none, .ld none (.t 21)⟩,
               ⟨(some 23), none, .mv (.t 3)⟩,
               ⟨(some 24), none, .fa 2 (.t 5)⟩,
               ⟨(some 25), none, .ld none (.t 24)⟩,
               ⟨none, none, .mup [1] (.t 17) (.t 19) (.c (.b true))⟩,
               ⟨none, none, .mup [1] (.t 20) (.t 22) (.c (.b true))⟩,
               ⟨none, none, .mup [1] (.t 23) (.t 25) (.c (.b true))⟩] [[], [], [], [], [], [], [], [], [], [4, 5, 7, 8], [7, 8], []])))
           (.reg [
             ⟨(some 26), none, .bin .add (.t 13) (.c (.i .i64 1))⟩,
             ⟨(some 13), none, .mv (.t 26)⟩])))))))
     (.seq
      (.drw [
        ⟨(some 27), none, .mv (.t 3)⟩,
        ⟨(some 28), none, .len 2 (.t 27)⟩,
        ⟨(some 29), none, .ld (some 2) (.t 1)⟩,
        ⟨(some 30), none, .call topo_Edges [(.t 29)]⟩,
        ⟨(some 31), none, .len 0 (.t 30)⟩,
        ⟨(some 32), none, .bin .sub (.t 28) (.t 31)⟩,
        ⟨(some 33), none, .fa 1 (.t 1)⟩,
        ⟨(some 34), none, .ld none (.t 33)⟩,
        ⟨(some 35), none, .len 0 (.t 34)⟩,
        ⟨(some 36), none, .bin .add (.t 32) (.t 35)⟩,
        ⟨(some 2), none, .mv (.t 36)⟩] [[], [], [], [], [], [], [3], [3], [3], [], []])
      .ret)))))
def topo_Euler.r : List Rr := [.tmp 2]
abbrev topo_Euler.n : Nat := 37
def ref10_place.c (ref10_before : FuncId) : C :=
 (.seq
  (.reg [
    ⟨(some 3), none, .box (.t 1)⟩,
    ⟨(some 4), none, .mv (.c (.i .i64 0))⟩])
  (.seq
   (.reg [
     ⟨(some 8), none, .mv (.t 0)⟩,
     ⟨(some 9), none, .len 0 (.t 8)⟩,
     ⟨(some 5), none, .mv (.c (.i .i64 0))⟩,
     ⟨(some 6), none, .mv (.t 9)⟩])
   (.seq
    (.blk 0
     (.loop
      (.seq
       (.seq
        (.reg [
          ⟨(some 10), none, .mv (.t 5)⟩,
          ⟨(some 11), none, .mv (.t 6)⟩,
          ⟨(some 12), none, .bin .lss (.t 10) (.t 11)⟩])
        (.ite (.t 12)
         .skip
         (.exit 0)))
       (.blk 1
        (.seq
         (.reg [
           ⟨(some 13), none, .mv (.t 5)⟩,
           ⟨(some 14), none, .mv (.t 6)⟩,
           ⟨(some 15), none, .bin .add (.t 13) (.t 14)⟩,
           ⟨(some 16), none, .bin .quo (.t 15) (.c (.i .i64 2))⟩,
           ⟨(some 7), none, .mv (.t 16)⟩])
         (.seq
          (.drw [
            ⟨(some 17), none, .mv (.t 0)⟩,
            ⟨(some 18), none, .mv (.t 7)⟩,
            ⟨(some 19), none, .ia 3 (.t 17) (.t 18)⟩,
            ⟨(some 20), none, .fa 0 (.t 19)⟩,
            ⟨(some 21), none, .ld (some 2) (.t 20)⟩,
            ⟨(some 22), none, .ld (some 2) (.t 3)⟩,
            ⟨(some 23), none, .call ref10_before [(.t 21), (.t 22)]⟩] [])
          (.ite (.t 23)
           (.reg [
             ⟨(some 24), none, .mv (.t 7)⟩,
             ⟨(some 25), none, .bin .add (.t 24) (.c (.i .i64 1))⟩,
             ⟨(some 5), none, .mv (.t 25)⟩])
           (.reg [
             ⟨(some 26), none, .mv (.t 7)⟩,
             ⟨(some 6), none, .mv (.t 26)⟩]))))))))
    (.seq
     (.reg [
       ⟨(some 27), none, .mv (.t 5)⟩,
       ⟨(some 4), none, .mv (.t 27)⟩])
     .ret))))
def ref10_place.r : List Rr := [.tmp 4]
abbrev ref10_place.n : Nat := 28
def ref10_number.c (ref10_place : FuncId) : C :=
 (.seq
  (.reg [
    ⟨(some 3), none, .box (.t 1)⟩,
    ⟨(some 4), none, .mv (.c (.i .i64 0))⟩])
  (.seq
   (.reg [
     ⟨(some 6), none, .mv (.t 0)⟩,
     ⟨(some 7), none, .ld (some 2) (.t 3)⟩,
     ⟨(some 8), none, .call ref10_place [(.t 6), (.t 7)]⟩,
     ⟨(some 5), none, .mv (.t 8)⟩])
   (.seq
    (.seq
     (.drw [
       ⟨(some 9), none, .mv (.t 5)⟩,
       ⟨(some 10), none, .mv (.t 0)⟩,
       ⟨(some 11), none, .len 0 (.t 10)⟩,
       ⟨(some 12), none, .bin .lss (.t 9) (.t 11)⟩,
       ⟨(some 13), none, .mv (.t 12)⟩,
       ⟨(some 14), (some (13, true)), .mv (.t 0)⟩,
       ⟨(some 15), (some (13, true)), .mv (.t 5)⟩,
       ⟨(some 16), (some (13, true)), .ia 3 (.t 14) (.t 15)⟩,
       ⟨(some 17), (some (13, true)), .fa 0 (.t 16)⟩,
       ⟨(some 18), (some (13, true)), .ld (some 2) (.t 17)⟩,
       ⟨(some 19), (some (13, true)), .ld (some 2) (.t 3)⟩,
       ⟨(some 20), (some (13, true)), .eqa [1, 1] false (.t 18) (.t 19)⟩,
       ⟨(some 21), none, .pick (.t 13) (.t 20) (.c (.b false))⟩] [])
     (.ite (.t 21)
      (.seq
       (.reg [
         ⟨(some 22), none, .mv (.t 0)⟩,
         ⟨(some 23), none, .mv (.t 5)⟩,
         ⟨(some 24), none, .ia 3 (.t 22) (.t 23)⟩,
         ⟨(some 25), none, .fa 2 (.t 24)⟩,
         ⟨(some 26), none, .ld none (.t 25)⟩,
         ⟨(some 4), none, .mv (.t 26)⟩])
       .ret)
      .skip))
    (.seq
     (.reg [
       ⟨(some 4), none, .mv (.c (.i .i64 0))⟩])
     .ret))))
def ref10_number.r : List Rr := [.tmp 4]
abbrev ref10_number.n : Nat := 27
def ref10_with.c (ref10_place : FuncId) : C :=
 (.seq
  (.reg [
    ⟨(some 3), none, .box (.t 1)⟩,
    ⟨(some 4), none, .mv (.c .nil)⟩])
  (.seq
   (.reg [
     ⟨(some 6), none, .mv (.t 0)⟩,
     ⟨(some 7), none, .ld (some 2) (.t 3)⟩,
     ⟨(some 8), none, .call ref10_place [(.t 6), (.t 7)]⟩,
     ⟨(some 5), none, .mv (.t 8)⟩])
   (.seq
    (.seq
     (.drw [
       ⟨(some 9), none, .mv (.t 5)⟩,
       ⟨(some 10), none, .mv (.t 0)⟩,
       ⟨(some 11), none, .len 0 (.t 10)⟩,
       ⟨(some 12), none, .bin .lss (.t 9) (.t 11)⟩,
       ⟨(some 13), none, .mv (.t 12)⟩,
       ⟨(some 14), (some (13, true)), .mv (.t 0)⟩,
       ⟨(some 15), (some (13, true)), .mv (.t 5)⟩,
       ⟨(some 16), (some (13, true)), .ia 3 (.t 14) (.t 15)⟩,
       ⟨(some 17), (some (13, true)), .fa 0 (.t 16)⟩,
       ⟨(some 18), (some (13, true)), .ld (some 2) (.t 17)⟩,
       ⟨(some 19), (some (13, true)), .ld (some 2) (.t 3)⟩,
       ⟨(some 20), (some (13, true)), .eqa [1, 1] false (.t 18) (.t 19)⟩,
       ⟨(some 21), none, .pick (.t 13) (.t 20) (.c (.b false))⟩] [])
     (.ite (.t 21)
      (.seq
       (.reg [
         ⟨(some 22), none, .mv (.t 0)⟩,
         ⟨(some 4), none, .mv (.t 22)⟩])
       .ret)
      .skip))
    (.seq
     (.reg [
       ⟨(some 23), none, .mv (.t 0)⟩,
       ⟨(some 24), none, .build [(.i .i64 0), (.i .i64 0), (.i .i64 0)] []⟩,
       ⟨(some 25), none, .bsi 3 1 [(.i .i64 0), (.i .i64 0), (.i .i64 0)] [(0, (.t 24))]⟩,
       ⟨(some 26), none, .app 3 24 (.t 23) (.t 25)⟩,
       ⟨(some 0), none, .mv (.t 26)⟩])
     (.seq
      (.drw [
        ⟨(some 27), none, .mv (.t 0)⟩,
        ⟨(some 28), none, .mv (.t 5)⟩,
        ⟨(some 29), none, .bin .add (.t 28) (.c (.i .i64 1))⟩,
        ⟨(some 30), none, .slc 3 (.t 27) (some (.t 29)) none⟩,
        ⟨(some 31), none, .mv (.t 0)⟩,
        ⟨(some 32), none, .mv (.t 5)⟩,
        ⟨(some 33), none, .slc 3 (.t 31) (some (.t 32)) none⟩,
        ⟨(some 34), none, .copy 3 (.t 30) (.t 33)⟩] [])
      (.seq
       (.reg [
         ⟨(some 35), none, .mv (.t 0)⟩,
         ⟨(some 36), none, .mv (.t 5)⟩,
         ⟨(some 37), none, .ld (some 2) (.t 3)⟩,
         ⟨(some 38), none, .build [(.i .i64 0), (.i .i64 0), (.i .i64 0)] [(0, 2, (.t 37))]⟩,
         ⟨(some 39), none, .ia 3 (.t 35) (.t 36)⟩,
         ⟨none, none, .st 3 (.t 39) (.t 38)⟩])
       (.seq
        (.reg [
          ⟨(some 40), none, .mv (.t 0)⟩,
          ⟨(some 4), none, .mv (.t 40)⟩])
        .ret)))))))
def ref10_with.r : List Rr := [.tmp 4]
abbrev ref10_with.n : Nat := 41
def ref10_counts.c (ref10_Directed ref10_with ref10_place : FuncId) : C :=
 (.seq
  (.reg [
    ⟨(some 1), none, .box (.t 0)⟩,
    ⟨(some 2), none, .mv (.c .nil)⟩])
  (.seq
   (.reg [
     ⟨(some 3), none, .mv (.c .nil)⟩])
   (.seq
    (.seq
     (.reg [
       ⟨(some 8), none, .fa 1 (.t 1)⟩,
       ⟨(some 9), none, .ld none (.t 8)⟩,
       ⟨(some 10), none, .len 0 (.t 9)⟩,
       ⟨(some 11), none, .mv (.c (.i .i64 0))⟩])
     (.blk 0
      (.loop
       (.seq
        (.reg [
          ⟨(some 12), none, .bin .lss (.t 11) (.t 10)⟩])
        (.seq
         (.ite (.t 12)
          .skip
          (.exit 0))
         (.seq
          (.blk 1
           (.seq
            (.reg [
              ⟨(some 13), none, .ia 3 (.t 9) (.t 11)⟩,
              ⟨(some 14), none, .ld (some 3) (.t 13)⟩,
              ⟨(some 5), none, .alloc [(.i .i64 0), (.i .i64 0), (.i .i64 0)]⟩,
              ⟨none, none, .st 3 (.t 5) (.t 14)⟩])
            (.seq
             (.reg [
               ⟨(some 15), none, .ld (some 3) (.t 5)⟩,
               ⟨(some 16), none, .call ref10_Directed [(.t 15)]⟩,
               ⟨(some 17), none, .len 0 (.t 16)⟩,
               ⟨(some 18), none, .mv (.c (.i .i64 0))⟩])
             (.blk 2
              (.loop
               (.seq
                (.reg [
                  ⟨(some 19), none, .bin .lss (.t 18) (.t 17)⟩])
                (.seq
                 (.ite (.t 19)
                  .skip
                  (.exit 2))
                 (.seq
                  (.blk 3
                   (.seq
                    (.reg [
                      ⟨(some 20), none, .ia 2 (.t 16) (.t 18)⟩,
                      ⟨(some 21), none, .ld (some 2) (.t 20)⟩,
                      ⟨(some 7), none, .alloc [(.i .i64 0), (.i .i64 0)]⟩,
                      ⟨none, none, .st 2 (.t 7) (.t 21)⟩])
                    (.seq
                     (.reg [
                       ⟨(some 22), none, .mv (.t 3)⟩,
                       ⟨(some 23), none, .ld (some 2) (.t 7)⟩,
                       ⟨(some 24), none, .call ref10_with [(.t 22), (.t 23)]⟩,
                       ⟨(some 3), none, .mv (.t 24)⟩])
                     (.reg [
                       ⟨(some 25), none, .mv (.t 3)⟩,
                       ⟨(some 26), none, .mv (.t 3)⟩,
                       ⟨(some 27), none, .ld (some 2) (.t 7)⟩,
                       ⟨(some 28), none, .call ref10_place [(.t 26), (.t 27)]⟩,
                       ⟨(some 29), none, .ia 3 (.t 25) (.t 28)⟩,
                       ⟨(some 30), none, .fa 2 (.t 29)⟩,
                       ⟨(some 31), none, .ld none (.t 30)⟩,
                       ⟨(some 32), none, .bin .add (.t 31) (.c (.i .i64 1))⟩,
                       ⟨(some 33), none, .ia 3 (.t 25) (.t 28)⟩,
                       ⟨(some 34), none, .fa 2 (.t 33)⟩,
                       ⟨none, none, .st 1 (.t 34) (.t 32)⟩]))))
                  (.reg [
                    ⟨(some 35), none, .bin .add (.t 18) (.c (.i .i64 1))⟩,
                    ⟨(some 18), none, .mv (.t 35)⟩])))))))))
          (.reg [
            ⟨(some 36), none, .bin .add (.t 11) (.c (.i .i64 1))⟩,
            ⟨(some 11), none, .mv (.t 36)⟩])))))))
    (.seq
     (.reg [
       ⟨(some 37), none, .mv (.t 3)⟩,
       ⟨(some 2), none, .mv (.t 37)⟩])
     .ret))))
def ref10_counts.r : List Rr := [.tmp 2]
abbrev ref10_counts.n : Nat := 38
def ref10_undirected.c (ref10_Directed ref10_Undirected ref10_with : FuncId) : C :=
 (.seq
  (.reg [
    ⟨(some 1), none, .box (.t 0)⟩,
    ⟨(some 2), none, .mv (.c .nil)⟩])
  (.seq
   (.reg [
     ⟨(some 3), none, .mv (.c .nil)⟩])
   (.seq
    (.seq
     (.reg [
       ⟨(some 8), none, .fa 1 (.t 1)⟩,
       ⟨(some 9), none, .ld none (.t 8)⟩,
       ⟨(some 10), none, .len 0 (.t 9)⟩,
       ⟨(some 11), none, .mv (.c (.i .i64 0))⟩])
     (.blk 0
      (.loop
       (.seq
        (.reg [
          ⟨(some 12), none, .bin .lss (.t 11) (.t 10)⟩])
        (.seq
         (.ite (.t 12)
          .skip
          (.exit 0))
         (.seq
          (.blk 1
           (.seq
            (.reg [
              ⟨(some 13), none, .ia 3 (.t 9) (.t 11)⟩,
              ⟨(some 14), none, .ld (some 3) (.t 13)⟩,
              ⟨(some 5), none, .alloc [(.i .i64 0), (.i .i64 0), (.i .i64 0)]⟩,
              ⟨none, none, .st 3 (.t 5) (.t 14)⟩])
            (.seq
             (.reg [
               ⟨(some 15), none, .ld (some 3) (.t 5)⟩,
               ⟨(some 16), none, .call ref10_Directed [(.t 15)]⟩,
               ⟨(some 17), none, .len 0 (.t 16)⟩,
               ⟨(some 18), none, .mv (.c (.i .i64 0))⟩])
             (.blk 2
              (.loop
               (.seq
                (.reg [
                  ⟨(some 19), none, .bin .lss (.t 18) (.t 17)⟩])
                (.seq
                 (.ite (.t 19)
                  .skip
                  (.exit 2))
                 (.seq
                  (.blk 3
                   (.seq
                    (.reg [
                      ⟨(some 20), none, .ia 2 (.t 16) (.t 18)⟩,
                      ⟨(some 21), none, .ld (some 2) (.t 20)⟩,
                      ⟨(some 7), none, .alloc [(.i .i64 0), (.i .i64 0)]⟩,
                      ⟨none, none, .st 2 (.t 7) (.t 21)⟩])
                    (.reg [
                      ⟨(some 22), none, .mv (.t 3)⟩,
                      ⟨(some 23), none, .ld (some 2) (.t 7)⟩,
                      ⟨(some 24), none, .call ref10_Undirected [(.t 23)]⟩,
                      ⟨(some 25), none, .call ref10_with [(.t 22), (.t 24)]⟩,
                      ⟨(some 3), none, .mv (.t 25)⟩])))
                  (.reg [
                    ⟨(some 26), none, .bin .add (.t 18) (.c (.i .i64 1))⟩,
                    ⟨(some 18), none, .mv (.t 26)⟩])))))))))
          (.reg [
            ⟨(some 27), none, .bin .add (.t 11) (.c (.i .i64 1))⟩,
            ⟨(some 11), none, .mv (.t 27)⟩])))))))
    (.seq
     (.reg [
       ⟨(some 28), none, .mv (.t 3)⟩,
       ⟨(some 2), none, .mv (.t 28)⟩])
     .ret))))
def ref10_undirected.r : List Rr := [.tmp 2]
abbrev ref10_undirected.n : Nat := 29
def ref10_Edges.c (ref07_Check ref10_undirected : FuncId) : C :=
 (.seq
  (.reg [
    ⟨(some 1), none, .box (.t 0)⟩,
    ⟨(some 2), none, .mv (.c .nil)⟩])
  (.seq
   (.seq
    (.reg [
      ⟨(some 6), none, .ld (some 2) (.t 1)⟩,
      ⟨(some 7), none, .call ref07_Check [(.t 6)]⟩,
      ⟨(some 8), none, .bin .neq (.t 7) (.c (.i .i64 0))⟩])
    (.ite (.t 8)
     (.seq
      (.reg [
        ⟨(some 2), none, .mv (.c .nil)⟩])
      .ret)
     .skip))
   (.seq
    (.reg [
      ⟨(some 3), none, .mv (.c .nil)⟩])
    (.seq
     (.seq
      (.reg [
        ⟨(some 9), none, .ld (some 2) (.t 1)⟩,
        ⟨(some 10), none, .call ref10_undirected [(.t 9)]⟩,
        ⟨(some 11), none, .len 0 (.t 10)⟩,
        ⟨(some 12), none, .mv (.c (.i .i64 0))⟩])
      (.blk 0
       (.loop
        (.seq
         (.reg [
           ⟨(some 13), none, .bin .lss (.t 12) (.t 11)⟩])
         (.seq
          (.ite (.t 13)
           .skip
           (.exit 0))
          (.seq
           (.blk 1
            (.seq
             (.reg [
               ⟨(some 14), none, .ia 3 (.t 10) (.t 12)⟩,
               ⟨(some 15), none, .ld (some 3) (.t 14)⟩,
               ⟨(some 5), none, .alloc [(.i .i64 0), (.i .i64 0), (.i .i64 0)]⟩,
               ⟨none, none, .st 3 (.t 5) (.t 15)⟩])
             (.reg [
               ⟨(some 16), none, .mv (.t 3)⟩,
               ⟨(some 17), none, .fa 0 (.t 5)⟩,
               ⟨(some 18), none, .ld (some 2) (.t 17)⟩,
               ⟨(some 19), none, .bsi 2 1 [(.i .i64 0), (.i .i64 0)] [(0, (.t 18))]⟩,
               ⟨(some 20), none, .app 2 16 (.t 16) (.t 19)⟩,
               ⟨(some 3), none, .mv (.t 20)⟩])))
           (.reg [
             ⟨(some 21), none, .bin .add (.t 12) (.c (.i .i64 1))⟩,
             ⟨(some 12), none, .mv (.t 21)⟩])))))))
     (.seq
      (.reg [
        ⟨(some 22), none, .mv (.t 3)⟩,
        ⟨(some 2), none, .mv (.t 22)⟩])
      .ret)))))
def ref10_Edges.r : List Rr := [.tmp 2]
abbrev ref10_Edges.n : Nat := 23
def ref10_Uses.c (ref07_Check ref10_counts ref10_number ref10_reverse : FuncId) : C :=
 (.seq
  (.reg [
    ⟨(some 2), none, .box (.t 0)⟩,
    ⟨(some 3), none, .box (.t 1)⟩,
    ⟨(some 4), none, .mv (.c (.i .i64 0))⟩,
    ⟨(some 5), none, .mv (.c (.i .i64 0))⟩])
  (.seq
   (.seq
    (.reg [
      ⟨(some 7), none, .ld (some 2) (.t 2)⟩,
      ⟨(some 8), none, .call ref07_Check [(.t 7)]⟩,
      ⟨(some 9), none, .bin .neq (.t 8) (.c (.i .i64 0))⟩])
    (.ite (.t 9)
     (.seq
      (.reg [
        ⟨(some 4), none, .mv (.c (.i .i64 0))⟩,
        ⟨(some 5), none, .mv (.c (.i .i64 0))⟩])
      .ret)
     .skip))
   (.seq
    (.reg [
      ⟨(some 10), none, .ld (some 2) (.t 2)⟩,
      ⟨(some 11), none, .call ref10_counts [(.t 10)]⟩,
      ⟨(some 6), none, .mv (.t 11)⟩])
    (.seq
     (.drw [
       ⟨(some 12), none, .mv (.t 6)⟩,
       ⟨(some 13), none, .ld (some 2) (.t 3)⟩,
       ⟨(some 14), none, .call ref10_number [(.t 12), (.t 13)]⟩,
       ⟨(some 15), none, .mv (.t 6)⟩,
       ⟨(some 16), none, .ld (some 2) (.t 3)⟩,
       ⟨(some 17), none, .call ref10_reverse [(.t 16)]⟩,
       ⟨(some 18), none, .call ref10_number [(.t 15), (.t 17)]⟩,
       ⟨(some 4), none, .mv (.t 14)⟩,
       ⟨(some 5), none, .mv (.t 18)⟩] [[], [], [], [], [2], [], [], [], []])
     .ret))))
def ref10_Uses.r : List Rr := [.tmp 4, .tmp 5]
abbrev ref10_Uses.n : Nat := 19
def ref10_Boundary.c (ref07_Check ref10_counts ref10_reverse ref10_number : FuncId) : C :=
 (.seq
  (.reg [
    ⟨(some 1), none, .box (.t 0)⟩,
    ⟨(some 2), none, .mv (.c .nil)⟩])
  (.seq
   (.seq
    (.reg [
      ⟨(some 7), none, .ld (some 2) (.t 1)⟩,
      ⟨(some 8), none, .call ref07_Check [(.t 7)]⟩,
      ⟨(some 9), none, .bin .neq (.t 8) (.c (.i .i64 0))⟩])
    (.ite (.t 9)
     (.seq
      (.reg [
        ⟨(some 2), none, .mv (.c .nil)⟩])
      .ret)
     .skip))
   (.seq
    (.reg [
      ⟨(some 10), none, .ld (some 2) (.t 1)⟩,
      ⟨(some 11), none, .call ref10_counts [(.t 10)]⟩,
      ⟨(some 3), none, .mv (.t 11)⟩])
    (.seq
     (.reg [
       ⟨(some 4), none, .mv (.c .nil)⟩])
     (.seq
      (.seq
       (.reg [
         ⟨(some 12), none, .mv (.t 3)⟩,
         ⟨(some 13), none, .len 0 (.t 12)⟩,
         ⟨(some 14), none, .mv (.c (.i .i64 0))⟩])
       (.blk 0
        (.loop
         (.seq
          (.reg [
            ⟨(some 15), none, .bin .lss (.t 14) (.t 13)⟩])
          (.seq
           (.ite (.t 15)
            .skip
            (.exit 0))
           (.seq
            (.blk 1
             (.seq
              (.reg [
                ⟨(some 16), none, .ia 3 (.t 12) (.t 14)⟩,
                ⟨(some 17), none, .ld (some 3) (.t 16)⟩,
                ⟨(some 6), none, .alloc [(.i .i64 0), (.i .i64 0), (.i .i64 0)]⟩,
                ⟨none, none, .st 3 (.t 6) (.t 17)⟩])
              (.seq
               (.drw [
                 ⟨(some 18), none, .fa 2 (.t 6)⟩,
                 ⟨(some 19), none, .ld none (.t 18)⟩,
                 ⟨(some 20), none, .mv (.t 3)⟩,
                 ⟨(some 21), none, .fa 0 (.t 6)⟩,
                 ⟨(some 22), none, .ld (some 2) (.t 21)⟩,
                 ⟨(some 23), none, .call ref10_reverse [(.t 22)]⟩,
                 ⟨(some 24), none, .call ref10_number [(.t 20), (.t 23)]⟩,
                 ⟨(some 25), none, .bin .gtr (.t 19) (.t 24)⟩] [[], [], [], [], [], [0, 1], [0, 1], []])
               (.ite (.t 25)
                (.reg [
                  ⟨(some 26), none, .mv (.t 4)⟩,
                  ⟨(some 27), none, .fa 0 (.t 6)⟩,
                  ⟨(some 28), none, .ld (some 2) (.t 27)⟩,
                  ⟨(some 29), none, .bsi 2 1 [(.i .i64 0), (.i .i64 0)] [(0, (.t 28))]⟩,
                  ⟨(some 30), none, .app 2 16 (.t 26) (.t 29)⟩,
                  ⟨(some 4), none, .mv (.t 30)⟩])
                .skip))))
            (.reg [
              ⟨(some 31), none, .bin .add (.t 14) (.c (.i .i64 1))⟩,
              ⟨(some 14), none, .mv (.t 31)⟩])))))))
      (.seq
       (.reg [
         ⟨(some 32), none, .mv (.t 4)⟩,
         ⟨(some 2), none, .mv (.t 32)⟩])
       .ret))))))
def ref10_Boundary.r : List Rr := [.tmp 2]
abbrev ref10_Boundary.n : Nat := 33
def ref10_simple.c (ref10_counts ref10_number ref10_reverse : FuncId) : C :=
 (.seq
  (.reg [
    ⟨(some 2), none, .box (.t 0)⟩,
    ⟨(some 4), none, .mv (.c (.b false))⟩])
  (.seq
   (.reg [
     ⟨(some 8), none, .ld (some 2) (.t 2)⟩,
     ⟨(some 9), none, .call ref10_counts [(.t 8)]⟩,
     ⟨(some 5), none, .mv (.t 9)⟩])
   (.seq
    (.seq
     (.reg [
       ⟨(some 10), none, .mv (.t 1)⟩,
       ⟨(some 11), none, .len 0 (.t 10)⟩,
       ⟨(some 12), none, .mv (.c (.i .i64 0))⟩])
     (.blk 0
      (.loop
       (.seq
        (.reg [
          ⟨(some 13), none, .bin .lss (.t 12) (.t 11)⟩])
        (.seq
         (.ite (.t 13)
          .skip
          (.exit 0))
         (.seq
          (.blk 1
           (.seq
            (.reg [
              ⟨(some 14), none, .mv (.t 12)⟩,
              ⟨(some 15), none, .ia 2 (.t 10) (.t 12)⟩,
              ⟨(some 16), none, .ld (some 2) (.t 15)⟩,
              ⟨(some 7), none, .alloc [(.i .i64 0), (.i .i64 0)]⟩,
              ⟨(some 6), none, .mv (.t 14)⟩,
              ⟨none, none, .st 2 (.t 7) (.t 16)⟩])
            (.seq
             (.drw [
               ⟨(some 17), none, .mv (.t 5)⟩,
               ⟨(some 18), none, .ld (some 2) (.t 7)⟩,
               ⟨(some 19), none, .call ref10_number [(.t 17), (.t 18)]⟩,
               ⟨(some 20), none, .bin .neq (.t 19) (.c (.i .i64 1))⟩,
               ⟨(some 21), none, .mv (.t 20)⟩,
               ⟨(some 22), (some (21, false)), .mv (.t 5)⟩,
               ⟨(some 23), (some (21, false)), .ld (some 2) (.t 7)⟩,
               ⟨(some 24), (some (21, false)), .call ref10_reverse [(.t 23)]⟩,
               ⟨(some 25), (some (21, false)), .call ref10_number [(.t 22), (.t 24)]⟩,
               ⟨(some 26), (some (21, false)), .bin .neq (.t 25) (.c (.i .i64 0))⟩,
               ⟨(some 27), none, .pick (.t 21) (.c (.b true)) (.t 26)⟩,
               ⟨(some 28), none, .mv (.t 27)⟩,
               ⟨(some 29), (some (28, false)), .mv (.t 6)⟩,
               ⟨(some 30), (some (28, false)), .bin .gtr (.t 29) (.c (.i .i64 0))⟩,
               ⟨(some 31), (some (28, false)), .mv (.t 30)⟩,
               ⟨(some 32), (some (31, true)), .mv (.t 1)⟩,
               ⟨(some 33), (some (31, true)), .mv (.t 6)⟩,
               ⟨(some 34), (some (31, true)), .bin .sub (.t 33) (.c (.i .i64 1))⟩,
               ⟨(some 35), (some (31, true)), .ia 2 (.t 32) (.t 34)⟩,
               ⟨(some 36), (some (31, true)), .fa 0 (.t 35)⟩,
               ⟨(some 37), (some (31, true)), .ld none (.t 36)⟩,
               ⟨(some 38), (some (31, true)), .fa 0 (.t 7)⟩,
               ⟨(some 39), (some (31, true)), .ld none (.t 38)⟩,
               ⟨(some 40), (some (31, true)), .bin .eql (.t 37) (.t 39)⟩,
               ⟨(some 41), (some (28, false)), .pick (.t 31) (.t 40) (.c (.b false))⟩,
               ⟨(some 42), none, .pick (.t 28) (.c (.b true)) (.t 41)⟩] [])
             (.ite (.t 42)
              (.seq
               (.reg [
                 ⟨(some 4), none, .mv (.c (.b false))⟩])
               .ret)
              .skip))))
          (.reg [
            ⟨(some 43), none, .bin .add (.t 12) (.c (.i .i64 1))⟩,
            ⟨(some 12), none, .mv (.t 43)⟩])))))))
    (.seq
     (.reg [
       ⟨(some 4), none, .mv (.c (.b true))⟩])
     .ret))))
def ref10_simple.r : List Rr := [.tmp 4]
abbrev ref10_simple.n : Nat := 44
def ref10_source.c : C :=
 (.seq
  (.reg [
    ⟨(some 4), none, .mv (.c (.i .i64 0))⟩])
  (.seq
   (.seq
    (.reg [
      ⟨(some 7), none, .mv (.t 0)⟩,
      ⟨(some 8), none, .len 0 (.t 7)⟩,
      ⟨(some 9), none, .mv (.c (.i .i64 0))⟩])
    (.blk 0
     (.loop
      (.seq
       (.reg [
         ⟨(some 10), none, .bin .lss (.t 9) (.t 8)⟩])
       (.seq
        (.ite (.t 10)
         .skip
         (.exit 0))
        (.seq
         (.blk 1
          (.seq
           (.reg [
             ⟨(some 11), none, .ia 2 (.t 7) (.t 9)⟩,
             ⟨(some 12), none, .ld (some 2) (.t 11)⟩,
             ⟨(some 6), none, .alloc [(.i .i64 0), (.i .i64 0)]⟩,
             ⟨none, none, .st 2 (.t 6) (.t 12)⟩])
           (.seq
            (.reg [
              ⟨(some 13), none, .fa 1 (.t 6)⟩,
              ⟨(some 14), none, .ld none (.t 13)⟩,
              ⟨(some 15), none, .mv (.t 1)⟩,
              ⟨(some 16), none, .bin .eql (.t 14) (.t 15)⟩])
            (.ite (.t 16)
             (.seq
              (.reg [
                ⟨(some 17), none, .fa 0 (.t 6)⟩,
                ⟨(some 18), none, .ld none (.t 17)⟩,
                ⟨(some 4), none, .mv (.t 18)⟩])
              .ret)
             .skip))))
         (.reg [
           ⟨(some 19), none, .bin .add (.t 9) (.c (.i .i64 1))⟩,
           ⟨(some 9), none, .mv (.t 19)⟩])))))))
   (.seq
    (.reg [
      ⟨(some 20), none, .mv (.t 1)⟩,
      ⟨(some 4), none, .mv (.t 20)⟩])
    .ret)))
def ref10_source.r : List Rr := [.tmp 4]
abbrev ref10_source.n : Nat := 21
def ref10_Loops.c (ref07_Check ref10_Boundary ref10_simple ref10_source : FuncId) : C :=
 (.seq
  (.reg [
    ⟨(some 1), none, .box (.t 0)⟩,
    ⟨(some 2), none, .mv (.c .nil)⟩,
    ⟨(some 3), none, .mv (.c (.i .i64 0))⟩])
  (.seq
   (.reg [
     ⟨(some 12), none, .ld (some 2) (.t 1)⟩,
     ⟨(some 13), none, .call ref07_Check [(.t 12)]⟩,
     ⟨(some 4), none, .mv (.t 13)⟩])
   (.seq
    (.seq
     (.reg [
       ⟨(some 14), none, .mv (.t 4)⟩,
       ⟨(some 15), none, .bin .neq (.t 14) (.c (.i .i64 0))⟩])
     (.ite (.t 15)
      (.seq
       (.reg [
         ⟨(some 16), none, .mv (.t 4)⟩,
         ⟨(some 2), none, .mv (.c .nil)⟩,
         ⟨(some 3), none, .mv (.t 16)⟩])
       .ret)
      .skip))
    (.seq
     (.reg [
       ⟨(some 17), none, .ld (some 2) (.t 1)⟩,
       ⟨(some 18), none, .call ref10_Boundary [(.t 17)]⟩,
       ⟨(some 5), none, .mv (.t 18)⟩])
     (.seq
      (.seq
       (.reg [
         ⟨(some 19), none, .ld (some 2) (.t 1)⟩,
         ⟨(some 20), none, .mv (.t 5)⟩,
         ⟨(some 21), none, .call ref10_simple [(.t 19), (.t 20)]⟩,
         ⟨(some 22), none, .un .not (.t 21)⟩])
       (.ite (.t 22)
        (.seq
         (.reg [
           ⟨(some 2), none, .mv (.c .nil)⟩,
           ⟨(some 3), none, .mv (.c (.i .i64 13))⟩])
         .ret)
        .skip))
      (.seq
       (.reg [
         ⟨(some 23), none, .fa 0 (.t 1)⟩,
         ⟨(some 24), none, .ld none (.t 23)⟩,
         ⟨(some 25), none, .len 0 (.t 24)⟩,
         ⟨(some 26), none, .mks 1 1 [(.b false)] (.t 25)⟩,
         ⟨(some 6), none, .mv (.t 26)⟩])
       (.seq
        (.reg [
          ⟨(some 7), none, .mv (.c .nil)⟩])
        (.seq
         (.seq
          (.reg [
            ⟨(some 27), none, .mv (.t 5)⟩,
            ⟨(some 28), none, .len 0 (.t 27)⟩,
            ⟨(some 29), none, .mv (.c (.i .i64 0))⟩])
          (.blk 0
           (.loop
            (.seq
             (.reg [
               ⟨(some 30), none, .bin .lss (.t 29) (.t 28)⟩])
             (.seq
              (.ite (.t 30)
               .skip
               (.exit 0))
              (.seq
               (.blk 1
                (.seq
                 (.reg [
                   ⟨(some 31), none, .ia 2 (.t 27) (.t 29)⟩,
                   ⟨(some 32), none, .ld (some 2) (.t 31)⟩,
                   ⟨(some 9), none, .alloc [(.i .i64 0), (.i .i64 0)]⟩,
                   ⟨none, none, .st 2 (.t 9) (.t 32)⟩])
                 (.seq
                  (.seq
                   (.reg [
                     ⟨(some 33), none, .mv (.t 6)⟩,
                     ⟨(some 34), none, .fa 0 (.t 9)⟩,
                     ⟨(some 35), none, .ld none (.t 34)⟩,
                     ⟨(some 36), none, .ia 1 (.t 33) (.t 35)⟩,
                     ⟨(some 37), none, .ld none (.t 36)⟩])
                   (.ite (.t 37)
                    (.exit 1)
                    .skip))
                  (.seq
                   (.reg [
                     ⟨(some 10), none, .mv (.c .nil)⟩])
                   (.seq
                    (.seq
                     (.reg [
                       ⟨(some 38), none, .fa 0 (.t 9)⟩,
                       ⟨(some 39), none, .ld none (.t 38)⟩,
                       ⟨(some 11), none, .mv (.t 39)⟩])
                     (.blk 2
                      (.loop
                       (.seq
                        (.seq
                         (.reg [
                           ⟨(some 40), none, .mv (.t 6)⟩,
                           ⟨(some 41), none, .mv (.t 11)⟩,
                           ⟨(some 42), none, .ia 1 (.t 40) (.t 41)⟩,
                           ⟨(some 43), none, .ld none (.t 42)⟩,
                           ⟨(some 44), none, .un .not (.t 43)⟩])
                         (.ite (.t 44)
                          .skip
                          (.exit 2)))
                        (.seq
                         (.blk 3
                          (.seq
                           (.reg [
                             ⟨(some 48), none, .mv (.t 6)⟩,
                             ⟨(some 49), none, .mv (.t 11)⟩,
                             ⟨(some 50), none, .ia 1 (.t 48) (.t 49)⟩,
                             ⟨none, none, .st 1 (.t 50) (.c (.b true))⟩])
                           (.reg [
                             ⟨(some 51), none, .mv (.t 10)⟩,
                             ⟨(some 52), none, .mv (.t 11)⟩,
                             ⟨(some 53), none, .bsi 1 1 [(.i .i64 0)] [(0, (.t 52))]⟩,
                             ⟨(some 54), none, .app 1 8 (.t 51) (.t 53)⟩,
                             ⟨(some 10), none, .mv (.t 54)⟩])))
                         (.reg [
                           ⟨(some 45), none, .mv (.t 5)⟩,
                           ⟨(some 46), none, .mv (.t 11)⟩,
                           ⟨(some 47), none, .call ref10_source [(.t 45), (.t 46)]⟩,
                           ⟨(some 11), none, .mv (.t 47)⟩]))))))
                    (.reg [
                      ⟨(some 55), none, .mv (.t 7)⟩,
                      ⟨(some 56), none, .mv (.t 10)⟩,
                      ⟨(some 57), none, .bso 1 1 [.nil] [(0, (.t 56))]⟩,
                      ⟨(some 58), none, .app 1 24 (.t 55) (.t 57)⟩,
                      ⟨(some 7), none, .mv (.t 58)⟩]))))))
               (.reg [
                 ⟨(some 59), none, .bin .add (.t 29) (.c (.i .i64 1))⟩,
                 ⟨(some 29), none, .mv (.t 59)⟩])))))))
         (.seq
          (.reg [
            ⟨(some 60), none, .mv (.t 7)⟩,
            ⟨(some 2), none, .mv (.t 60)⟩,
            ⟨(some 3), none, .mv (.c (.i .i64 0))⟩])
          .ret)))))))))
def ref10_Loops.r : List Rr := [.tmp 2, .tmp 3]
abbrev ref10_Loops.n : Nat := 61
def ref10_spread.c (ref10_undirected ref10_Directed ref10_Undirected ref10_place ref10_number : FuncId) : C :=
 (.seq
  (.reg [
    ⟨(some 2), none, .box (.t 0)⟩,
    ⟨(some 4), none, .mv (.c .nil)⟩,
    ⟨(some 5), none, .mv (.c (.b false))⟩])
  (.seq
   (.reg [
     ⟨(some 20), none, .ld (some 2) (.t 2)⟩,
     ⟨(some 21), none, .call ref10_undirected [(.t 20)]⟩,
     ⟨(some 6), none, .mv (.t 21)⟩])
   (.seq
    (.seq
     (.reg [
       ⟨(some 22), none, .mv (.t 6)⟩,
       ⟨(some 23), none, .len 0 (.t 22)⟩,
       ⟨(some 24), none, .mv (.c (.i .i64 0))⟩])
     (.blk 0
      (.loop
       (.seq
        (.reg [
          ⟨(some 25), none, .bin .lss (.t 24) (.t 23)⟩])
        (.seq
         (.ite (.t 25)
          .skip
          (.exit 0))
         (.seq
          (.blk 1
           (.seq
            (.reg [
              ⟨(some 26), none, .mv (.t 24)⟩,
              ⟨(some 7), none, .mv (.t 26)⟩])
            (.reg [
              ⟨(some 27), none, .mv (.t 6)⟩,
              ⟨(some 28), none, .mv (.t 7)⟩,
              ⟨(some 29), none, .mv (.t 1)⟩,
              ⟨(some 30), none, .len 0 (.t 29)⟩,
              ⟨(some 31), none, .ia 3 (.t 27) (.t 28)⟩,
              ⟨(some 32), none, .fa 2 (.t 31)⟩,
              ⟨none, none, .st 1 (.t 32) (.t 30)⟩])))
          (.reg [
            ⟨(some 33), none, .bin .add (.t 24) (.c (.i .i64 1))⟩,
            ⟨(some 24), none, .mv (.t 33)⟩])))))))
    (.seq
     (.seq
      (.reg [
        ⟨(some 34), none, .fa 1 (.t 2)⟩,
        ⟨(some 35), none, .ld none (.t 34)⟩,
        ⟨(some 36), none, .len 0 (.t 35)⟩,
        ⟨(some 37), none, .mv (.c (.i .i64 0))⟩])
      (.blk 2
       (.loop
        (.seq
         (.reg [
           ⟨(some 38), none, .bin .lss (.t 37) (.t 36)⟩])
         (.seq
          (.ite (.t 38)
           .skip
           (.exit 2))
          (.seq
           (.blk 3
            (.seq
             (.reg [
               ⟨(some 39), none, .mv (.t 37)⟩,
               ⟨(some 40), none, .ia 3 (.t 35) (.t 37)⟩,
               ⟨(some 41), none, .ld (some 3) (.t 40)⟩,
               ⟨(some 9), none, .alloc [(.i .i64 0), (.i .i64 0), (.i .i64 0)]⟩,
               ⟨(some 8), none, .mv (.t 39)⟩,
               ⟨none, none, .st 3 (.t 9) (.t 41)⟩])
             (.seq
              (.reg [
                ⟨(some 42), none, .ld (some 3) (.t 9)⟩,
                ⟨(some 43), none, .call ref10_Directed [(.t 42)]⟩,
                ⟨(some 44), none, .len 0 (.t 43)⟩,
                ⟨(some 45), none, .mv (.c (.i .i64 0))⟩])
              (.blk 4
               (.loop
                (.seq
                 (.reg [
                   ⟨(some 46), none, .bin .lss (.t 45) (.t 44)⟩])
                 (.seq
                  (.ite (.t 46)
                   .skip
                   (.exit 4))
                  (.seq
                   (.blk 5
                    (.seq
                     (.reg [
                       ⟨(some 47), none, .ia 2 (.t 43) (.t 45)⟩,
                       ⟨(some 48), none, .ld (some 2) (.t 47)⟩,
                       ⟨(some 11), none, .alloc [(.i .i64 0), (.i .i64 0)]⟩,
                       ⟨none, none, .st 2 (.t 11) (.t 48)⟩])
                     (.seq
                      (.reg [
                        ⟨(some 49), none, .mv (.t 6)⟩,
                        ⟨(some 50), none, .ld (some 2) (.t 11)⟩,
                        ⟨(some 51), none, .call ref10_Undirected [(.t 50)]⟩,
                        ⟨(some 52), none, .call ref10_place [(.t 49), (.t 51)]⟩,
                        ⟨(some 12), none, .mv (.t 52)⟩])
                      (.drw [
                        ⟨(some 53), none, .mv (.t 6)⟩,
                        ⟨(some 54), none, .mv (.t 12)⟩,
                        ⟨(some 55), none, .mv (.t 6)⟩,
                        ⟨(some 56), none, .mv (.t 12)⟩,
                        ⟨(some 57), none, .ia 3 (.t 55) (.t 56)⟩,
                        ⟨(some 58), none, .fa 2 (.t 57)⟩,
                        ⟨(some 59), none, .ld none (.t 58)⟩,
                        ⟨(some 60), none, .mv (.t 1)⟩,
                        ⟨(some 61), none, .mv (.t 8)⟩,
                        ⟨(some 62), none, .ia 1 (.t 60) (.t 61)⟩,
                        ⟨(some 63), none, .ld none (.t 62)⟩,
                        ⟨(some 64), none, .mn [(.t 59), (.t 63)]⟩,
                        ⟨(some 65), none, .ia 3 (.t 53) (.t 54)⟩,
                        ⟨(some 66), none, .fa 2 (.t 65)⟩,
                        ⟨none, none, .st 1 (.t 66) (.t 64)⟩] []))))
                   (.reg [
                     ⟨(some 67), none, .bin .add (.t 45) (.c (.i .i64 1))⟩,
                     ⟨(some 45), none, .mv (.t 67)⟩])))))))))
           (.reg [
             ⟨(some 68), none, .bin .add (.t 37) (.c (.i .i64 1))⟩,
             ⟨(some 37), none, .mv (.t 68)⟩])))))))
     (.seq
      (.reg [
        ⟨(some 13), none, .mv (.c .nil)⟩])
      (.seq
       (.reg [
         ⟨(some 14), none, .mv (.c (.b false))⟩])
       (.seq
        (.seq
         (.reg [
           ⟨(some 69), none, .fa 1 (.t 2)⟩,
           ⟨(some 70), none, .ld none (.t 69)⟩,
           ⟨(some 71), none, .len 0 (.t 70)⟩,
           ⟨(some 72), none, .mv (.c (.i .i64 0))⟩])
         (.blk 6
          (.loop
           (.seq
            (.reg [
              ⟨(some 73), none, .bin .lss (.t 72) (.t 71)⟩])
            (.seq
             (.ite (.t 73)
              .skip
              (.exit 6))
             (.seq
              (.blk 7
               (.seq
                (.reg [
                  ⟨(some 74), none, .mv (.t 72)⟩,
                  ⟨(some 75), none, .ia 3 (.t 70) (.t 72)⟩,
                  ⟨(some 76), none, .ld (some 3) (.t 75)⟩,
                  ⟨(some 16), none, .alloc [(.i .i64 0), (.i .i64 0), (.i .i64 0)]⟩,
                  ⟨(some 15), none, .mv (.t 74)⟩,
                  ⟨none, none, .st 3 (.t 16) (.t 76)⟩])
                (.seq
                 (.reg [
                   ⟨(some 77), none, .mv (.t 1)⟩,
                   ⟨(some 78), none, .mv (.t 15)⟩,
                   ⟨(some 79), none, .ia 1 (.t 77) (.t 78)⟩,
                   ⟨(some 80), none, .ld none (.t 79)⟩,
                   ⟨(some 17), none, .mv (.t 80)⟩])
                 (.seq
                  (.seq
                   (.reg [
                     ⟨(some 81), none, .ld (some 3) (.t 16)⟩,
                     ⟨(some 82), none, .call ref10_Directed [(.t 81)]⟩,
                     ⟨(some 83), none, .len 0 (.t 82)⟩,
                     ⟨(some 84), none, .mv (.c (.i .i64 0))⟩])
                   (.blk 8
                    (.loop
                     (.seq
                      (.reg [
                        ⟨(some 85), none, .bin .lss (.t 84) (.t 83)⟩])
                      (.seq
                       (.ite (.t 85)
                        .skip
                        (.exit 8))
                       (.seq
                        (.blk 9
                         (.seq
                          (.reg [
                            ⟨(some 86), none, .ia 2 (.t 82) (.t 84)⟩,
                            ⟨(some 87), none, .ld (some 2) (.t 86)⟩,
                            ⟨(some 19), none, .alloc [(.i .i64 0), (.i .i64 0)]⟩,
                            ⟨none, none, .st 2 (.t 19) (.t 87)⟩])
                          (.reg [
                            ⟨(some 88), none, .mv (.t 17)⟩,
                            ⟨(some 89), none, .mv (.t 6)⟩,
                            ⟨(some 90), none, .ld (some 2) (.t 19)⟩,
                            ⟨(some 91), none, .call ref10_Undirected [(.t 90)]⟩,
                            ⟨(some 92), none, .call ref10_number [(.t 89), (.t 91)]⟩,
                            ⟨(some 93), none, .mn [(.t 88), (.t 92)]⟩,
                            ⟨(some 17), none, .mv (.t 93)⟩])))
                        (.reg [
                          ⟨(some 94), none, .bin .add (.t 84) (.c (.i .i64 1))⟩,
                          ⟨(some 84), none, .mv (.t 94)⟩])))))))
                  (.seq
                   (.reg [
                     ⟨(some 95), none, .mv (.t 14)⟩,
                     ⟨(some 96), none, .mv (.t 95)⟩,
                     ⟨(some 97), (some (96, false)), .mv (.t 17)⟩,
                     ⟨(some 98), (some (96, false)), .mv (.t 1)⟩,
                     ⟨(some 99), (some (96, false)), .mv (.t 15)⟩,
                     ⟨(some 100), (some (96, false)), .ia 1 (.t 98) (.t 99)⟩,
                     ⟨(some 101), (some (96, false)), .ld none (.t 100)⟩,
                     ⟨(some 102), (some (96, false)), .bin .neq (.t 97) (.t 101)⟩,
                     ⟨(some 103), none, .pick (.t 96) (.c (.b true)) (.t 102)⟩,
                     ⟨(some 14), none, .mv (.t 103)⟩])
                   (.reg [
                     ⟨(some 104), none, .mv (.t 13)⟩,
                     ⟨(some 105), none, .mv (.t 17)⟩,
                     ⟨(some 106), none, .bsi 1 1 [(.i .i64 0)] [(0, (.t 105))]⟩,
                     ⟨(some 107), none, .app 1 8 (.t 104) (.t 106)⟩,
                     ⟨(some 13), none, .mv (.t 107)⟩]))))))
              (.reg [
                ⟨(some 108), none, .bin .add (.t 72) (.c (.i .i64 1))⟩,
                ⟨(some 72), none, .mv (.t 108)⟩])))))))
        (.seq
         (.reg [
           ⟨(some 109), none, .mv (.t 13)⟩,
           ⟨(some 110), none, .mv (.t 14)⟩,
           ⟨(some 4), none, .mv (.t 109)⟩,
           ⟨(some 5), none, .mv (.t 110)⟩])
         .ret))))))))
def ref10_spread.r : List Rr := [.tmp 4, .tmp 5]
abbrev ref10_spread.n : Nat := 111
def ref10_Shells.c (ref07_Check ref10_spread : FuncId) : C :=
 (.seq
  (.reg [
    ⟨(some 1), none, .box (.t 0)⟩,
    ⟨(some 2), none, .mv (.c .nil)⟩])
  (.seq
   (.seq
    (.reg [
      ⟨(some 10), none, .ld (some 2) (.t 1)⟩,
      ⟨(some 11), none, .call ref07_Check [(.t 10)]⟩,
      ⟨(some 12), none, .bin .neq (.t 11) (.c (.i .i64 0))⟩])
    (.ite (.t 12)
     (.seq
      (.reg [
        ⟨(some 2), none, .mv (.c .nil)⟩])
      .ret)
     .skip))
   (.seq
    (.reg [
      ⟨(some 3), none, .mv (.c .nil)⟩])
    (.seq
     (.seq
      (.reg [
        ⟨(some 13), none, .fa 1 (.t 1)⟩,
        ⟨(some 14), none, .ld none (.t 13)⟩,
        ⟨(some 15), none, .len 0 (.t 14)⟩,
        ⟨(some 16), none, .mv (.c (.i .i64 0))⟩])
      (.blk 0
       (.loop
        (.seq
         (.reg [
           ⟨(some 17), none, .bin .lss (.t 16) (.t 15)⟩])
         (.seq
          (.ite (.t 17)
           .skip
           (.exit 0))
          (.seq
           (.blk 1
            (.seq
             (.reg [
               ⟨(some 18), none, .mv (.t 16)⟩,
               ⟨(some 4), none, .mv (.t 18)⟩])
             (.reg [
               ⟨(some 19), none, .mv (.t 3)⟩,
               ⟨(some 20), none, .mv (.t 4)⟩,
               ⟨(some 21), none, .bsi 1 1 [(.i .i64 0)] [(0, (.t 20))]⟩,
               ⟨(some 22), none, .app 1 8 (.t 19) (.t 21)⟩,
               ⟨(some 3), none, .mv (.t 22)⟩])))
           (.reg [
             ⟨(some 23), none, .bin .add (.t 16) (.c (.i .i64 1))⟩,
             ⟨(some 16), none, .mv (.t 23)⟩])))))))
     (.seq
      (.seq
       (.reg [
         ⟨(some 5), none, .mv (.c (.b true))⟩])
       (.blk 2
        (.loop
         (.seq
          (.seq
           (.reg [
             ⟨(some 24), none, .mv (.t 5)⟩])
           (.ite (.t 24)
            .skip
            (.exit 2)))
          (.blk 3
           (.reg [
             ⟨(some 26), none, .ld (some 2) (.t 1)⟩,
             ⟨(some 27), none, .mv (.t 3)⟩,
             ⟨(some 28), none, .call ref10_spread [(.t 26), (.t 27)]⟩,
             ⟨(some 25), none, .mv (.t 28)⟩,
             ⟨(some 29), none, .ext (.t 25) 0⟩,
             ⟨(some 30), none, .ext (.t 25) 1⟩,
             ⟨(some 3), none, .mv (.t 29)⟩,
             ⟨(some 5), none, .mv (.t 30)⟩]))))))
      (.seq
       (.reg [
         ⟨(some 6), none, .mv (.c .nil)⟩])
       (.seq
        (.seq
         (.reg [
           ⟨(some 31), none, .mv (.t 3)⟩,
           ⟨(some 32), none, .len 0 (.t 31)⟩,
           ⟨(some 33), none, .mv (.c (.i .i64 0))⟩])
         (.blk 4
          (.loop
           (.seq
            (.reg [
              ⟨(some 34), none, .bin .lss (.t 33) (.t 32)⟩])
            (.seq
             (.ite (.t 34)
              .skip
              (.exit 4))
             (.seq
              (.blk 5
               (.seq
                (.reg [
                  ⟨(some 35), none, .mv (.t 33)⟩,
                  ⟨(some 7), none, .mv (.t 35)⟩])
                (.seq
                 (.seq
                  (.reg [
                    ⟨(some 36), none, .mv (.t 3)⟩,
                    ⟨(some 37), none, .mv (.t 7)⟩,
                    ⟨(some 38), none, .ia 1 (.t 36) (.t 37)⟩,
                    ⟨(some 39), none, .ld none (.t 38)⟩,
                    ⟨(some 40), none, .mv (.t 7)⟩,
                    ⟨(some 41), none, .bin .neq (.t 39) (.t 40)⟩])
                  (.ite (.t 41)
                   (.exit 5)
                   .skip))
                 (.seq
                  (.reg [
                    ⟨(some 8), none, .mv (.c .nil)⟩])
                  (.seq
                   (.seq
                    (.reg [
                      ⟨(some 42), none, .mv (.t 7)⟩,
                      ⟨(some 9), none, .mv (.t 42)⟩])
                    (.blk 6
                     (.loop
                      (.seq
                       (.seq
                        (.reg [
                          ⟨(some 43), none, .mv (.t 9)⟩,
                          ⟨(some 44), none, .mv (.t 3)⟩,
                          ⟨(some 45), none, .len 0 (.t 44)⟩,
                          ⟨(some 46), none, .bin .lss (.t 43) (.t 45)⟩])
                        (.ite (.t 46)
                         .skip
                         (.exit 6)))
                       (.seq
                        (.blk 7
                         (.seq
                          (.reg [
                            ⟨(some 49), none, .mv (.t 3)⟩,
                            ⟨(some 50), none, .mv (.t 9)⟩,
                            ⟨(some 51), none, .ia 1 (.t 49) (.t 50)⟩,
                            ⟨(some 52), none, .ld none (.t 51)⟩,
                            ⟨(some 53), none, .mv (.t 7)⟩,
                            ⟨(some 54), none, .bin .eql (.t 52) (.t 53)⟩])
                          (.ite (.t 54)
                           (.reg [
                             ⟨(some 55), none, .mv (.t 8)⟩,
                             ⟨(some 56), none, .mv (.t 9)⟩,
                             ⟨(some 57), none, .bsi 1 1 [(.i .i64 0)] [(0, (.t 56))]⟩,
                             ⟨(some 58), none, .app 1 8 (.t 55) (.t 57)⟩,
                             ⟨(some 8), none, .mv (.t 58)⟩])
                           .skip)))
                        (.reg [
                          ⟨(some 47), none, .mv (.t 9)⟩,
                          ⟨(some 48), none, .bin .add (.t 47) (.c (.i .i64 1))⟩,
                          ⟨(some 9), none, .mv (.t 48)⟩]))))))
                   (.reg [
                     ⟨(some 59), none, .mv (.t 6)⟩,
                     ⟨(some 60), none, .mv (.t 8)⟩,
                     ⟨(some 61), none, .bso 1 1 [.nil] [(0, (.t 60))]⟩,
                     ⟨(some 62), none, .app 1 24 (.t 59) (.t 61)⟩,
                     ⟨(some 6), none, .mv (.t 62)⟩]))))))
              (.reg [
                ⟨(some 63), none, .bin .add (.t 33) (.c (.i .i64 1))⟩,
                ⟨(some 33), none, .mv (.t 63)⟩])))))))
        (.seq
         (.reg [
           ⟨(some 64), none, .mv (.t 6)⟩,
           ⟨(some 2), none, .mv (.t 64)⟩])
         .ret))))))))
def ref10_Shells.r : List Rr := [.tmp 2]
abbrev ref10_Shells.n : Nat := 65
def ref10_Closed.c (ref07_Check ref10_Boundary : FuncId) : C :=
 (.seq
  (.reg [
    ⟨(some 1), none, .box (.t 0)⟩,
    ⟨(some 2), none, .mv (.c (.b false))⟩])
  (.seq
   (.reg [
     ⟨(some 3), none, .ld (some 2) (.t 1)⟩,
     ⟨(some 4), none, .call ref07_Check [(.t 3)]⟩,
     ⟨(some 5), none, .bin .eql (.t 4) (.c (.i .i64 0))⟩,
     ⟨(some 6), none, .mv (.t 5)⟩,
     ⟨(some 7), (some (6, true)), .ld (some 2) (.t 1)⟩,
     ⟨(some 8), (some (6, true)), .call ref10_Boundary [(.t 7)]⟩,
     ⟨(some 9), (some (6, true)), .len 0 (.t 8)⟩,
     ⟨(some 10), (some (6, true)), .bin .eql (.t 9) (.c (.i .i64 0))⟩,
     ⟨(some 11), none, .pick (.t 6) (.t 10) (.c (.b false))⟩,
     ⟨(some 2), none, .mv (.t 11)⟩])
   .ret))
def ref10_Closed.r : List Rr := [.tmp 2]
abbrev ref10_Closed.n : Nat := 12
def ref10_Euler.c (ref07_Check ref10_Edges : FuncId) : C :=
 (.seq
  (.reg [
    ⟨(some 1), none, .box (.t 0)⟩,
    ⟨(some 2), none, .mv (.c (.i .i64 0))⟩])
  (.seq
   (.seq
    (.reg [
      ⟨(some 8), none, .ld (some 2) (.t 1)⟩,
      ⟨(some 9), none, .call ref07_Check [(.t 8)]⟩,
      ⟨(some 10), none, .bin .neq (.t 9) (.c (.i .i64 0))⟩])
    (.ite (.t 10)
     (.seq
      (.reg [
        ⟨(some 2), none, .mv (.c (.i .i64 0))⟩])
      .ret)
     .skip))
   (.seq
    (.reg [
      ⟨(some 11), none, .fa 0 (.t 1)⟩,
      ⟨(some 12), none, .ld none (.t 11)⟩,
      ⟨(some 13), none, .len 0 (.t 12)⟩,
      ⟨(some 14), none, .mks 1 1 [(.b false)] (.t 13)⟩,
      ⟨(some 3), none, .mv (.t 14)⟩])
    (.seq
     (.seq
      (.reg [
        ⟨(some 15), none, .fa 1 (.t 1)⟩,
        ⟨(some 16), none, .ld none (.t 15)⟩,
        ⟨(some 17), none, .len 0 (.t 16)⟩,
        ⟨(some 18), none, .mv (.c (.i .i64 0))⟩])
      (.blk 0
       (.loop
        (.seq
         (.reg [
           ⟨(some 19), none, .bin .lss (.t 18) (.t 17)⟩])
         (.seq
          (.ite (.t 19)
           .skip
           (.exit 0))
          (.seq
           (.blk 1
            (.seq
             (.reg [
               ⟨(some 20), none, .ia 3 (.t 16) (.t 18)⟩,
               ⟨(some 21), none, .ld (some 3) (.t 20)⟩,
               ⟨(some 5), none, .alloc [(.i .i64 0), (.i .i64 0), (.i .i64 0)]⟩,
               ⟨none, none, .st 3 (.t 5) (.t 21)⟩])
             (.seq
              (.reg [
                ⟨(some 22), none, .mv (.t 3)⟩,
                ⟨(some 23), none, .fa 0 (.t 5)⟩,
                ⟨(some 24), none, .ld none (.t 23)⟩,
                ⟨(some 25), none, .ia 1 (.t 22) (.t 24)⟩,
                ⟨none, none, .st 1 (.t 25) (.c (.b true))⟩])
              (.seq
               (.reg [
                 ⟨(some 26), none, .mv (.t 3)⟩,
                 ⟨(some 27), none, .fa 1 (.t 5)⟩,
                 ⟨(some 28), none, .ld none (.t 27)⟩,
                 ⟨(some 29), none, .ia 1 (.t 26) (.t 28)⟩,
                 ⟨none, none, .st 1 (.t 29) (.c (.b true))⟩])
               (.reg [
                 ⟨(some 30), none, .mv (.t 3)⟩,
                 ⟨(some 31), none, .fa 2 (.t 5)⟩,
                 ⟨(some 32), none, .ld none (.t 31)⟩,
                 ⟨(some 33), none, .ia 1 (.t 30) (.t 32)⟩,
                 ⟨none, none, .st 1 (.t 33) (.c (.b true))⟩])))))
           (.reg [
             ⟨(some 34), none, .bin .add (.t 18) (.c (.i .i64 1))⟩,
             ⟨(some 18), none, .mv (.t 34)⟩])))))))
     (.seq
      (.drw [
        ⟨(some 35), none, .fa 1 (.t 1)⟩,
        ⟨(some 36), none, .ld none (.t 35)⟩,
        ⟨(some 37), none, .len 0 (.t 36)⟩,
        ⟨(some 38), none, .ld (some 2) (.t 1)⟩,
        ⟨(some 39), none, .call ref10_Edges [(.t 38)]⟩,
        ⟨(some 40), none, .len 0 (.t 39)⟩,
        ⟨(some 41), none, .bin .sub (.t 37) (.t 40)⟩,
        ⟨(some 6), none, .mv (.t 41)⟩] [[], [], [], [], [0, 1, 2], [], [], []])
      (.seq
       (.seq
        (.reg [
          ⟨(some 42), none, .mv (.t 3)⟩,
          ⟨(some 43), none, .len 0 (.t 42)⟩,
          ⟨(some 44), none, .mv (.c (.i .i64 0))⟩])
        (.blk 2
         (.loop
          (.seq
           (.reg [
             ⟨(some 45), none, .bin .lss (.t 44) (.t 43)⟩])
           (.seq
            (.ite (.t 45)
             .skip
             (.exit 2))
            (.seq
             (.blk 3
              (.seq
               (.reg [
                 ⟨(some 46), none, .mv (.t 44)⟩,
                 ⟨(some 7), none, .mv (.t 46)⟩])
               (.seq
                (.reg [
                  ⟨(some 47), none, .mv (.t 3)⟩,
                  ⟨(some 48), none, .mv (.t 7)⟩,
                  ⟨(some 49), none, .ia 1 (.t 47) (.t 48)⟩,
                  ⟨(some 50), none, .ld none (.t 49)⟩])
                (.ite (.t 50)
                 (.reg [
                   ⟨(some 51), none, .mv (.t 6)⟩,
                   ⟨(some 52), none, .bin .add (.t 51) (.c (.i .i64 1))⟩,
                   ⟨(some 6), none, .mv (.t 52)⟩])
                 .skip))))
             (.reg [
               ⟨(some 53), none, .bin .add (.t 44) (.c (.i .i64 1))⟩,
               ⟨(some 44), none, .mv (.t 53)⟩])))))))
       (.seq
        (.reg [
          ⟨(some 54), none, .mv (.t 6)⟩,
          ⟨(some 2), none, .mv (.t 54)⟩])
        .ret)))))))
def ref10_Euler.r : List Rr := [.tmp 2]
abbrev ref10_Euler.n : Nat := 55
def ref10_before.c : C :=
 (.seq
  (.reg [
    ⟨(some 2), none, .box (.t 0)⟩,
    ⟨(some 3), none, .box (.t 1)⟩,
    ⟨(some 4), none, .mv (.c (.b false))⟩])
  (.seq
   (.reg [
     ⟨(some 5), none, .fa 0 (.t 2)⟩,
     ⟨(some 6), none, .ld none (.t 5)⟩,
     ⟨(some 7), none, .fa 0 (.t 3)⟩,
     ⟨(some 8), none, .ld none (.t 7)⟩,
     ⟨(some 9), none, .bin .lss (.t 6) (.t 8)⟩,
     ⟨(some 10), none, .mv (.t 9)⟩,
     ⟨(some 11), (some (10, false)), .fa 0 (.t 2)⟩,
     ⟨(some 12), (some (10, false)), .ld none (.t 11)⟩,
     ⟨(some 13), (some (10, false)), .fa 0 (.t 3)⟩,
     ⟨(some 14), (some (10, false)), .ld none (.t 13)⟩,
     ⟨(some 15), (some (10, false)), .bin .eql (.t 12) (.t 14)⟩,
     ⟨(some 16), (some (10, false)), .mv (.t 15)⟩,
     ⟨(some 17), (some (16, true)), .fa 1 (.t 2)⟩,
     ⟨(some 18), (some (16, true)), .ld none (.t 17)⟩,
     ⟨(some 19), (some (16, true)), .fa 1 (.t 3)⟩,
     ⟨(some 20), (some (16, true)), .ld none (.t 19)⟩,
     ⟨(some 21), (some (16, true)), .bin .lss (.t 18) (.t 20)⟩,
     ⟨(some 22), (some (10, false)), .pick (.t 16) (.t 21) (.c (.b false))⟩,
     ⟨(some 23), none, .pick (.t 10) (.c (.b true)) (.t 22)⟩,
     ⟨(some 4), none, .mv (.t 23)⟩])
   .ret))
def ref10_before.r : List Rr := [.tmp 4]
abbrev ref10_before.n : Nat := 24
def ref10_reverse.c : C :=
 (.seq
  (.reg [
    ⟨(some 1), none, .box (.t 0)⟩,
    ⟨(some 2), none, .alloc [(.i .i64 0), (.i .i64 0)]⟩])
  (.seq
   (.reg [
     ⟨(some 3), none, .fa 1 (.t 1)⟩,
     ⟨(some 4), none, .ld none (.t 3)⟩,
     ⟨(some 5), none, .fa 0 (.t 1)⟩,
     ⟨(some 6), none, .ld none (.t 5)⟩,
     ⟨(some 7), none, .build [(.i .i64 0), (.i .i64 0)] [(0, 1, (.t 4)), (1, 1, (.t 6))]⟩,
     ⟨none, none, .st 2 (.t 2) (.t 7)⟩])
   .ret))
def ref10_reverse.r : List Rr := [.cell 2 (some 2)]
abbrev ref10_reverse.n : Nat := 8
def ref10_Undirected.c : C :=
 (.seq
  (.reg [
    ⟨(some 1), none, .box (.t 0)⟩,
    ⟨(some 2), none, .alloc [(.i .i64 0), (.i .i64 0)]⟩])
  (.seq
   (.reg [
     ⟨(some 3), none, .fa 0 (.t 1)⟩,
     ⟨(some 4), none, .ld none (.t 3)⟩,
     ⟨(some 5), none, .fa 1 (.t 1)⟩,
     ⟨(some 6), none, .ld none (.t 5)⟩,
     ⟨(some 7), none, .mn [(.t 4), (.t 6)]⟩,
     ⟨(some 8), none, .fa 0 (.t 1)⟩,
     ⟨(some 9), none, .ld none (.t 8)⟩,
     ⟨(some 10), none, .fa 1 (.t 1)⟩,
     ⟨(some 11), none, .ld none (.t 10)⟩,
     ⟨(some 12), none, .mx [(.t 9), (.t 11)]⟩,
     ⟨(some 13), none, .build [(.i .i64 0), (.i .i64 0)] [(0, 1, (.t 7)), (1, 1, (.t 12))]⟩,
     ⟨none, none, .st 2 (.t 2) (.t 13)⟩])
   .ret))
def ref10_Undirected.r : List Rr := [.cell 2 (some 2)]
abbrev ref10_Undirected.n : Nat := 14
def ref10_Directed.c : C :=
 (.seq
  (.reg [
    ⟨(some 1), none, .box (.t 0)⟩,
    ⟨(some 2), none, .mv (.c .nil)⟩])
  (.seq
   (.reg [
     ⟨(some 3), none, .mv (.c .nil)⟩])
   (.seq
    (.reg [
      ⟨(some 7), none, .fa 0 (.t 1)⟩,
      ⟨(some 8), none, .ld none (.t 7)⟩,
      ⟨(some 9), none, .fa 1 (.t 1)⟩,
      ⟨(some 10), none, .ld none (.t 9)⟩,
      ⟨(some 11), none, .build [(.i .i64 0), (.i .i64 0)] [(0, 1, (.t 8)), (1, 1, (.t 10))]⟩,
      ⟨(some 12), none, .fa 1 (.t 1)⟩,
      ⟨(some 13), none, .ld none (.t 12)⟩,
      ⟨(some 14), none, .fa 2 (.t 1)⟩,
      ⟨(some 15), none, .ld none (.t 14)⟩,
      ⟨(some 16), none, .build [(.i .i64 0), (.i .i64 0)] [(0, 1, (.t 13)), (1, 1, (.t 15))]⟩,
      ⟨(some 17), none, .fa 2 (.t 1)⟩,
      ⟨(some 18), none, .ld none (.t 17)⟩,
      ⟨(some 19), none, .fa 0 (.t 1)⟩,
      ⟨(some 20), none, .ld none (.t 19)⟩,
      ⟨(some 21), none, .build [(.i .i64 0), (.i .i64 0)] [(0, 1, (.t 18)), (1, 1, (.t 20))]⟩,
      ⟨(some 22), none, .bso 2 3 [(.i .i64 0), (.i .i64 0)] [(0, (.t 11)), (1, (.t 16)), (2, (.t 21))]⟩,
      ⟨(some 4), none, .mv (.t 22)⟩])
    (.seq
     (.seq
      (.reg [
        ⟨(some 23), none, .mv (.t 4)⟩,
        ⟨(some 24), none, .len 0 (.t 23)⟩,
        ⟨(some 25), none, .mv (.c (.i .i64 0))⟩])
      (.blk 0
       (.loop
        (.seq
         (.reg [
           ⟨(some 26), none, .bin .lss (.t 25) (.t 24)⟩])
         (.seq
          (.ite (.t 26)
           .skip
           (.exit 0))
          (.seq
           (.blk 1
            (.seq
             (.reg [
               ⟨(some 27), none, .ia 2 (.t 23) (.t 25)⟩,
               ⟨(some 28), none, .ld (some 2) (.t 27)⟩,
               ⟨(some 6), none, .alloc [(.i .i64 0), (.i .i64 0)]⟩,
               ⟨none, none, .st 2 (.t 6) (.t 28)⟩])
             (.seq
              (.reg [
                ⟨(some 29), none, .fa 0 (.t 6)⟩,
                ⟨(some 30), none, .ld none (.t 29)⟩,
                ⟨(some 31), none, .fa 1 (.t 6)⟩,
                ⟨(some 32), none, .ld none (.t 31)⟩,
                ⟨(some 33), none, .bin .neq (.t 30) (.t 32)⟩])
              (.ite (.t 33)
               (.reg [
                 ⟨(some 34), none, .mv (.t 3)⟩,
                 ⟨(some 35), none, .ld (some 2) (.t 6)⟩,
                 ⟨(some 36), none, .bsi 2 1 [(.i .i64 0), (.i .i64 0)] [(0, (.t 35))]⟩,
                 ⟨(some 37), none, .app 2 16 (.t 34) (.t 36)⟩,
                 ⟨(some 3), none, .mv (.t 37)⟩])
               .skip))))
           (.reg [
             ⟨(some 38), none, .bin .add (.t 25) (.c (.i .i64 1))⟩,
             ⟨(some 25), none, .mv (.t 38)⟩])))))))
     (.seq
      (.reg [
        ⟨(some 39), none, .mv (.t 3)⟩,
        ⟨(some 2), none, .mv (.t 39)⟩])
      .ret)))))
def ref10_Directed.r : List Rr := [.tmp 2]
abbrev ref10_Directed.n : Nat := 40
def law10_TopoEdges.c (law10_heavy law10_awake topo_Uses ref10_Uses topo_Edges ref10_Edges law10_edges : FuncId) : C :=
 (.seq
  (.reg [
    ⟨(some 2), none, .box (.t 0)⟩,
    ⟨(some 3), none, .box (.t 1)⟩,
    ⟨(some 4), none, .mv (.c (.b false))⟩])
  (.seq
   (.seq
    (.reg [
      ⟨(some 9), none, .ld (some 2) (.t 2)⟩,
      ⟨(some 10), none, .call law10_heavy [(.t 9)]⟩])
    (.ite (.t 10)
     (.seq
      (.reg [
        ⟨(some 11), none, .call law10_awake []⟩,
        ⟨(some 4), none, .mv (.t 11)⟩])
      .ret)
     .skip))
   (.seq
    (.reg [
      ⟨(some 13), none, .ld (some 2) (.t 2)⟩,
      ⟨(some 14), none, .ld (some 2) (.t 3)⟩,
      ⟨(some 15), none, .call topo_Uses [(.t 13), (.t 14)]⟩,
      ⟨(some 12), none, .mv (.t 15)⟩,
      ⟨(some 16), none, .ext (.t 12) 0⟩,
      ⟨(some 17), none, .ext (.t 12) 1⟩,
      ⟨(some 5), none, .mv (.t 16)⟩,
      ⟨(some 6), none, .mv (.t 17)⟩])
    (.seq
     (.reg [
       ⟨(some 19), none, .ld (some 2) (.t 2)⟩,
       ⟨(some 20), none, .ld (some 2) (.t 3)⟩,
       ⟨(some 21), none, .call ref10_Uses [(.t 19), (.t 20)]⟩,
       ⟨(some 18), none, .mv (.t 21)⟩,
       ⟨(some 22), none, .ext (.t 18) 0⟩,
       ⟨(some 23), none, .ext (.t 18) 1⟩,
       ⟨(some 7), none, .mv (.t 22)⟩,
       ⟨(some 8), none, .mv (.t 23)⟩])
     (.seq
      (.drw [
        ⟨(some 24), none, .mv (.t 5)⟩,
        ⟨(some 25), none, .mv (.t 7)⟩,
        ⟨(some 26), none, .bin .eql (.t 24) (.t 25)⟩,
        ⟨(some 27), none, .mv (.t 26)⟩,
        ⟨(some 28), (some (27, true)), .mv (.t 6)⟩,
        ⟨(some 29), (some (27, true)), .mv (.t 8)⟩,
        ⟨(some 30), (some (27, true)), .bin .eql (.t 28) (.t 29)⟩,
        ⟨(some 31), none, .pick (.t 27) (.t 30) (.c (.b false))⟩,
        ⟨(some 32), none, .mv (.t 31)⟩,
        ⟨(some 33), (some (32, true)), .ld (some 2) (.t 2)⟩,
        ⟨(some 34), (some (32, true)), .call topo_Edges [(.t 33)]⟩,
        ⟨(some 35), (some (32, true)), .ld (some 2) (.t 2)⟩,
        ⟨(some 36), (some (32, true)), .call ref10_Edges [(.t 35)]⟩,
        ⟨(some 37), (some (32, true)), .call law10_edges [(.t 34), (.t 36)]⟩,
        ⟨(some 38), none, .pick (.t 32) (.t 37) (.c (.b false))⟩,
        ⟨(some 39), none, .mv (.t 38)⟩,
        ⟨(some 40), (some (39, true)), .call law10_awake []⟩,
        ⟨(some 41), none, .pick (.t 39) (.t 40) (.c (.b false))⟩,
        ⟨(some 4), none, .mv (.t 41)⟩] [[], [], [], [], [], [], [], [], [], [], [], [10], [], [], [], [], [], [], []])
      .ret)))))
def law10_TopoEdges.r : List Rr := [.tmp 4]
abbrev law10_TopoEdges.n : Nat := 42
def law10_TopoBounds.c (law10_heavy law10_awake topo_Boundary ref10_Boundary law10_edges topo_Closed ref10_Closed topo_Uses : FuncId) : C :=
 (.seq
  (.reg [
    ⟨(some 1), none, .box (.t 0)⟩,
    ⟨(some 2), none, .mv (.c (.b false))⟩])
  (.seq
   (.seq
    (.reg [
      ⟨(some 8), none, .ld (some 2) (.t 1)⟩,
      ⟨(some 9), none, .call law10_heavy [(.t 8)]⟩])
    (.ite (.t 9)
     (.seq
      (.reg [
        ⟨(some 10), none, .call law10_awake []⟩,
        ⟨(some 2), none, .mv (.t 10)⟩])
      .ret)
     .skip))
   (.seq
    (.reg [
      ⟨(some 11), none, .ld (some 2) (.t 1)⟩,
      ⟨(some 12), none, .call topo_Boundary [(.t 11)]⟩,
      ⟨(some 3), none, .mv (.t 12)⟩])
    (.seq
     (.seq
      (.drw [
        ⟨(some 13), none, .mv (.t 3)⟩,
        ⟨(some 14), none, .ld (some 2) (.t 1)⟩,
        ⟨(some 15), none, .call ref10_Boundary [(.t 14)]⟩,
        ⟨(some 16), none, .call law10_edges [(.t 13), (.t 15)]⟩,
        ⟨(some 17), none, .un .not (.t 16)⟩,
        ⟨(some 18), none, .mv (.t 17)⟩,
        ⟨(some 19), (some (18, false)), .ld (some 2) (.t 1)⟩,
        ⟨(some 20), (some (18, false)), .call topo_Closed [(.t 19)]⟩,
        ⟨(some 21), (some (18, false)), .ld (some 2) (.t 1)⟩,
        ⟨(some 22), (some (18, false)), .call ref10_Closed [(.t 21)]⟩,
        ⟨(some 23), (some (18, false)), .eqb true (.t 20) (.t 22)⟩,
        ⟨(some 24), none, .pick (.t 18) (.c (.b true)) (.t 23)⟩] [[], [], [], [], [], [], [], [], [7], [], [], []])
      (.ite (.t 24)
       (.seq
        (.reg [
          ⟨(some 2), none, .mv (.c (.b false))⟩])
        .ret)
       .skip))
     (.seq
      (.seq
       (.reg [
         ⟨(some 25), none, .mv (.t 3)⟩,
         ⟨(some 26), none, .len 0 (.t 25)⟩,
         ⟨(some 27), none, .mv (.c (.i .i64 0))⟩])
       (.blk 0
        (.loop
         (.seq
          (.reg [
            ⟨(some 28), none, .bin .lss (.t 27) (.t 26)⟩])
          (.seq
           (.ite (.t 28)
            .skip
            (.exit 0))
           (.seq
            (.blk 1
             (.seq
              (.reg [
                ⟨(some 29), none, .ia 2 (.t 25) (.t 27)⟩,
                ⟨(some 30), none, .ld (some 2) (.t 29)⟩,
                ⟨(some 5), none, .alloc [(.i .i64 0), (.i .i64 0)]⟩,
                ⟨none, none, .st 2 (.t 5) (.t 30)⟩])
              (.seq
               (.reg [
                 ⟨(some 32), none, .ld (some 2) (.t 1)⟩,
                 ⟨(some 33), none, .ld (some 2) (.t 5)⟩,
                 ⟨(some 34), none, .call topo_Uses [(.t 32), (.t 33)]⟩,
                 ⟨(some 31), none, .mv (.t 34)⟩,
                 ⟨(some 35), none, .ext (.t 31) 0⟩,
                 ⟨(some 36), none, .ext (.t 31) 1⟩,
                 ⟨(some 6), none, .mv (.t 35)⟩,
                 ⟨(some 7), none, .mv (.t 36)⟩])
               (.seq
                (.reg [
                  ⟨(some 37), none, .mv (.t 6)⟩,
                  ⟨(some 38), none, .mv (.t 7)⟩,
                  ⟨(some 39), none, .bin .leq (.t 37) (.t 38)⟩])
                (.ite (.t 39)
                 (.seq
                  (.reg [
                    ⟨(some 2), none, .mv (.c (.b false))⟩])
                  .ret)
                 .skip)))))
            (.reg [
              ⟨(some 40), none, .bin .add (.t 27) (.c (.i .i64 1))⟩,
              ⟨(some 27), none, .mv (.t 40)⟩])))))))
      (.seq
       (.reg [
         ⟨(some 41), none, .call law10_awake []⟩,
         ⟨(some 2), none, .mv (.t 41)⟩])
       .ret))))))
def law10_TopoBounds.r : List Rr := [.tmp 2]
abbrev law10_TopoBounds.n : Nat := 42
def law10_TopoLoops.c (law10_heavy law10_awake topo_Loops ref10_Loops law10_lists topo_Uses topo_Boundary topo_Closed : FuncId) : C :=
 (.seq
  (.reg [
    ⟨(some 1), none, .box (.t 0)⟩,
    ⟨(some 2), none, .mv (.c (.b false))⟩])
  (.seq
   (.seq
    (.reg [
      ⟨(some 13), none, .ld (some 2) (.t 1)⟩,
      ⟨(some 14), none, .call law10_heavy [(.t 13)]⟩])
    (.ite (.t 14)
     (.seq
      (.reg [
        ⟨(some 15), none, .call law10_awake []⟩,
        ⟨(some 2), none, .mv (.t 15)⟩])
      .ret)
     .skip))
   (.seq
    (.reg [
      ⟨(some 17), none, .ld (some 2) (.t 1)⟩,
      ⟨(some 18), none, .call topo_Loops [(.t 17)]⟩,
      ⟨(some 16), none, .mv (.t 18)⟩,
      ⟨(some 19), none, .ext (.t 16) 0⟩,
      ⟨(some 20), none, .ext (.t 16) 1⟩,
      ⟨(some 3), none, .mv (.t 19)⟩,
      ⟨(some 4), none, .mv (.t 20)⟩])
    (.seq
     (.reg [
       ⟨(some 22), none, .ld (some 2) (.t 1)⟩,
       ⟨(some 23), none, .call ref10_Loops [(.t 22)]⟩,
       ⟨(some 21), none, .mv (.t 23)⟩,
       ⟨(some 24), none, .ext (.t 21) 0⟩,
       ⟨(some 25), none, .ext (.t 21) 1⟩,
       ⟨(some 5), none, .mv (.t 24)⟩,
       ⟨(some 6), none, .mv (.t 25)⟩])
     (.seq
      (.seq
       (.reg [
         ⟨(some 26), none, .mv (.t 4)⟩,
         ⟨(some 27), none, .mv (.t 6)⟩,
         ⟨(some 28), none, .bin .neq (.t 26) (.t 27)⟩,
         ⟨(some 29), none, .mv (.t 28)⟩,
         ⟨(some 30), (some (29, false)), .mv (.t 3)⟩,
         ⟨(some 31), (some (29, false)), .mv (.t 5)⟩,
         ⟨(some 32), (some (29, false)), .call law10_lists [(.t 30), (.t 31)]⟩,
         ⟨(some 33), (some (29, false)), .un .not (.t 32)⟩,
         ⟨(some 34), none, .pick (.t 29) (.c (.b true)) (.t 33)⟩])
       (.ite (.t 34)
        (.seq
         (.reg [
           ⟨(some 2), none, .mv (.c (.b false))⟩])
         .ret)
        .skip))
      (.seq
       (.seq
        (.reg [
          ⟨(some 35), none, .mv (.t 4)⟩,
          ⟨(some 36), none, .bin .neq (.t 35) (.c (.i .i64 0))⟩])
        (.ite (.t 36)
         (.seq
          (.reg [
            ⟨(some 37), none, .call law10_awake []⟩,
            ⟨(some 2), none, .mv (.t 37)⟩])
          .ret)
         .skip))
       (.seq
        (.reg [
          ⟨(some 7), none, .mv (.c (.i .i64 0))⟩])
        (.seq
         (.seq
          (.reg [
            ⟨(some 38), none, .mv (.t 3)⟩,
            ⟨(some 39), none, .len 0 (.t 38)⟩,
            ⟨(some 40), none, .mv (.c (.i .i64 0))⟩])
          (.blk 0
           (.loop
            (.seq
             (.reg [
               ⟨(some 41), none, .bin .lss (.t 40) (.t 39)⟩])
             (.seq
              (.ite (.t 41)
               .skip
               (.exit 0))
              (.seq
               (.blk 1
                (.seq
                 (.reg [
                   ⟨(some 42), none, .ia 1 (.t 38) (.t 40)⟩,
                   ⟨(some 43), none, .ld none (.t 42)⟩,
                   ⟨(some 9), none, .mv (.t 43)⟩])
                 (.seq
                  (.reg [
                    ⟨(some 44), none, .mv (.t 9)⟩,
                    ⟨(some 45), none, .len 0 (.t 44)⟩,
                    ⟨(some 46), none, .mv (.c (.i .i64 0))⟩])
                  (.blk 2
                   (.loop
                    (.seq
                     (.reg [
                       ⟨(some 47), none, .bin .lss (.t 46) (.t 45)⟩])
                     (.seq
                      (.ite (.t 47)
                       .skip
                       (.exit 2))
                      (.seq
                       (.blk 3
                        (.seq
                         (.reg [
                           ⟨(some 48), none, .mv (.t 46)⟩,
                           ⟨(some 10), none, .mv (.t 48)⟩])
                         (.seq
                          (.drw [
                            ⟨(some 50), none, .ld (some 2) (.t 1)⟩,
                            ⟨(some 51), none, .mv (.t 9)⟩,
                            ⟨(some 52), none, .mv (.t 10)⟩,
                            ⟨(some 53), none, .bin .add (.t 52) (.c (.i .i64 1))⟩,
                            ⟨(some 54), none, .mv (.t 9)⟩,
                            ⟨(some 55), none, .len 0 (.t 54)⟩,
                            ⟨(some 56), none, .bin .rem (.t 53) (.t 55)⟩,
                            ⟨(some 57), none, .ia 1 (.t 51) (.t 56)⟩,
                            ⟨(some 58), none, .ld none (.t 57)⟩,
                            ⟨(some 59), none, .mv (.t 9)⟩,
                            ⟨(some 60), none, .mv (.t 10)⟩,
                            ⟨(some 61), none, .ia 1 (.t 59) (.t 60)⟩,
                            ⟨(some 62), none, .ld none (.t 61)⟩,
                            ⟨(some 63), none, .build [(.i .i64 0), (.i .i64 0)] [(0, 1, (.t 58)), (1, 1, (.t 62))]⟩,
                            ⟨(some 64), none, .call topo_Uses [(.t 50), (.t 63)]⟩,
                            ⟨(some 49), none, .mv (.t 64)⟩,
                            ⟨(some 65), none, .ext (.t 49) 0⟩,
                            ⟨(some 66), none, .ext (.t 49) 1⟩,
                            ⟨(some 11), none, .mv (.t 65)⟩,
                            ⟨(some 12), none, .mv (.t 66)⟩] [])
                          (.seq
                           (.seq
                            (.reg [
                              ⟨(some 67), none, .mv (.t 11)⟩,
                              ⟨(some 68), none, .bin .neq (.t 67) (.c (.i .i64 1))⟩,
                              ⟨(some 69), none, .mv (.t 68)⟩,
                              ⟨(some 70), (some (69, false)), .mv (.t 12)⟩,
                              ⟨(some 71), (some (69, false)), .bin .neq (.t 70) (.c (.i .i64 0))⟩,
                              ⟨(some 72), none, .pick (.t 69) (.c (.b true)) (.t 71)⟩])
                            (.ite (.t 72)
                             (.seq
                              (.reg [
                                ⟨(some 2), none, .mv (.c (.b false))⟩])
                              .ret)
                             .skip))
                           (.reg [
                             ⟨(some 73), none, .mv (.t 7)⟩,
                             ⟨(some 74), none, .bin .add (.t 73) (.c (.i .i64 1))⟩,
                             ⟨(some 7), none, .mv (.t 74)⟩])))))
                       (.reg [
                         ⟨(some 75), none, .bin .add (.t 46) (.c (.i .i64 1))⟩,
                         ⟨(some 46), none, .mv (.t 75)⟩])))))))))
               (.reg [
                 ⟨(some 76), none, .bin .add (.t 40) (.c (.i .i64 1))⟩,
                 ⟨(some 40), none, .mv (.t 76)⟩])))))))
         (.seq
          (.reg [
            ⟨(some 77), none, .mv (.t 7)⟩,
            ⟨(some 78), none, .ld (some 2) (.t 1)⟩,
            ⟨(some 79), none, .call topo_Boundary [(.t 78)]⟩,
            ⟨(some 80), none, .len 0 (.t 79)⟩,
            ⟨(some 81), none, .bin .eql (.t 77) (.t 80)⟩,
            ⟨(some 82), none, .mv (.t 81)⟩,
            ⟨(some 83), (some (82, true)), .mv (.t 7)⟩,
            ⟨(some 84), (some (82, true)), .bin .eql (.t 83) (.c (.i .i64 0))⟩,
            ⟨(some 85), (some (82, true)), .ld (some 2) (.t 1)⟩,
            ⟨(some 86), (some (82, true)), .call topo_Closed [(.t 85)]⟩,
            ⟨(some 87), (some (82, true)), .eqb false (.t 84) (.t 86)⟩,
            ⟨(some 88), none, .pick (.t 82) (.t 87) (.c (.b false))⟩,
            ⟨(some 89), none, .mv (.t 88)⟩,
            ⟨(some 90), (some (89, true)), .call law10_awake []⟩,
            ⟨(some 91), none, .pick (.t 89) (.t 90) (.c (.b false))⟩,
            ⟨(some 2), none, .mv (.t 91)⟩])
          .ret)))))))))
def law10_TopoLoops.r : List Rr := [.tmp 2]
abbrev law10_TopoLoops.n : Nat := 92
def law10_TopoShells.c (law10_heavy law10_awake topo_Shells ref10_Shells law10_lists mesh_Check law10_touch : FuncId) : C :=
 (.seq
  (.reg [
    ⟨(some 1), none, .box (.t 0)⟩,
    ⟨(some 2), none, .mv (.c (.b false))⟩])
  (.seq
   (.seq
    (.reg [
      ⟨(some 10), none, .ld (some 2) (.t 1)⟩,
      ⟨(some 11), none, .call law10_heavy [(.t 10)]⟩])
    (.ite (.t 11)
     (.seq
      (.reg [
        ⟨(some 12), none, .call law10_awake []⟩,
        ⟨(some 2), none, .mv (.t 12)⟩])
      .ret)
     .skip))
   (.seq
    (.reg [
      ⟨(some 13), none, .ld (some 2) (.t 1)⟩,
      ⟨(some 14), none, .call topo_Shells [(.t 13)]⟩,
      ⟨(some 3), none, .mv (.t 14)⟩])
    (.seq
     (.seq
      (.reg [
        ⟨(some 15), none, .mv (.t 3)⟩,
        ⟨(some 16), none, .ld (some 2) (.t 1)⟩,
        ⟨(some 17), none, .call ref10_Shells [(.t 16)]⟩,
        ⟨(some 18), none, .call law10_lists [(.t 15), (.t 17)]⟩,
        ⟨(some 19), none, .un .not (.t 18)⟩])
      (.ite (.t 19)
       (.seq
        (.reg [
          ⟨(some 2), none, .mv (.c (.b false))⟩])
        .ret)
       .skip))
     (.seq
      (.seq
       (.reg [
         ⟨(some 20), none, .ld (some 2) (.t 1)⟩,
         ⟨(some 21), none, .call mesh_Check [(.t 20)]⟩,
         ⟨(some 22), none, .bin .neq (.t 21) (.c (.i .i64 0))⟩])
       (.ite (.t 22)
        (.seq
         (.reg [
           ⟨(some 23), none, .mv (.t 3)⟩,
           ⟨(some 24), none, .len 0 (.t 23)⟩,
           ⟨(some 25), none, .bin .eql (.t 24) (.c (.i .i64 0))⟩,
           ⟨(some 26), none, .mv (.t 25)⟩,
           ⟨(some 27), (some (26, true)), .call law10_awake []⟩,
           ⟨(some 28), none, .pick (.t 26) (.t 27) (.c (.b false))⟩,
           ⟨(some 2), none, .mv (.t 28)⟩])
         .ret)
        .skip))
      (.seq
       (.reg [
         ⟨(some 29), none, .fa 1 (.t 1)⟩,
         ⟨(some 30), none, .ld none (.t 29)⟩,
         ⟨(some 31), none, .len 0 (.t 30)⟩,
         ⟨(some 32), none, .mks 1 8 [(.i .i64 0)] (.t 31)⟩,
         ⟨(some 4), none, .mv (.t 32)⟩])
       (.seq
        (.seq
         (.reg [
           ⟨(some 33), none, .mv (.t 3)⟩,
           ⟨(some 34), none, .len 0 (.t 33)⟩,
           ⟨(some 35), none, .mv (.c (.i .i64 0))⟩])
         (.blk 0
          (.loop
           (.seq
            (.reg [
              ⟨(some 36), none, .bin .lss (.t 35) (.t 34)⟩])
            (.seq
             (.ite (.t 36)
              .skip
              (.exit 0))
             (.seq
              (.blk 1
               (.seq
                (.reg [
                  ⟨(some 37), none, .mv (.t 35)⟩,
                  ⟨(some 5), none, .mv (.t 37)⟩])
                (.seq
                 (.reg [
                   ⟨(some 38), none, .mv (.t 3)⟩,
                   ⟨(some 39), none, .mv (.t 5)⟩,
                   ⟨(some 40), none, .ia 1 (.t 38) (.t 39)⟩,
                   ⟨(some 41), none, .ld none (.t 40)⟩,
                   ⟨(some 42), none, .len 0 (.t 41)⟩,
                   ⟨(some 43), none, .mv (.c (.i .i64 0))⟩])
                 (.blk 2
                  (.loop
                   (.seq
                    (.reg [
                      ⟨(some 44), none, .bin .lss (.t 43) (.t 42)⟩])
                    (.seq
                     (.ite (.t 44)
                      .skip
                      (.exit 2))
                     (.seq
                      (.blk 3
                       (.seq
                        (.reg [
                          ⟨(some 45), none, .ia 1 (.t 41) (.t 43)⟩,
                          ⟨(some 46), none, .ld none (.t 45)⟩,
                          ⟨(some 7), none, .mv (.t 46)⟩])
                        (.seq
                         (.seq
                          (.reg [
                            ⟨(some 47), none, .mv (.t 7)⟩,
                            ⟨(some 48), none, .bin .lss (.t 47) (.c (.i .i64 0))⟩,
                            ⟨(some 49), none, .mv (.t 48)⟩,
                            ⟨(some 50), (some (49, false)), .mv (.t 7)⟩,
                            ⟨(some 51), (some (49, false)), .mv (.t 4)⟩,
                            ⟨(some 52), (some (49, false)), .len 0 (.t 51)⟩,
                            ⟨(some 53), (some (49, false)), .bin .geq (.t 50) (.t 52)⟩,
                            ⟨(some 54), none, .pick (.t 49) (.c (.b true)) (.t 53)⟩,
                            ⟨(some 55), none, .mv (.t 54)⟩,
                            ⟨(some 56), (some (55, false)), .mv (.t 4)⟩,
                            ⟨(some 57), (some (55, false)), .mv (.t 7)⟩,
                            ⟨(some 58), (some (55, false)), .ia 1 (.t 56) (.t 57)⟩,
                            ⟨(some 59), (some (55, false)), .ld none (.t 58)⟩,
                            ⟨(some 60), (some (55, false)), .bin .neq (.t 59) (.c (.i .i64 0))⟩,
                            ⟨(some 61), none, .pick (.t 55) (.c (.b true)) (.t 60)⟩])
                          (.ite (.t 61)
                           (.seq
                            (.reg [
                              ⟨(some 2), none, .mv (.c (.b false))⟩])
                            .ret)
                           .skip))
                         (.reg [
                           ⟨(some 62), none, .mv (.t 4)⟩,
                           ⟨(some 63), none, .mv (.t 7)⟩,
                           ⟨(some 64), none, .mv (.t 5)⟩,
                           ⟨(some 65), none, .bin .add (.t 64) (.c (.i .i64 1))⟩,
                           ⟨(some 66), none, .ia 1 (.t 62) (.t 63)⟩,
                           ⟨none, none, .st 1 (.t 66) (.t 65)⟩]))))
                      (.reg [
                        ⟨(some 67), none, .bin .add (.t 43) (.c (.i .i64 1))⟩,
                        ⟨(some 43), none, .mv (.t 67)⟩])))))))))
              (.reg [
                ⟨(some 68), none, .bin .add (.t 35) (.c (.i .i64 1))⟩,
                ⟨(some 35), none, .mv (.t 68)⟩])))))))
        (.seq
         (.seq
          (.reg [
            ⟨(some 69), none, .mv (.t 4)⟩,
            ⟨(some 70), none, .len 0 (.t 69)⟩,
            ⟨(some 71), none, .mv (.c (.i .i64 0))⟩])
          (.blk 4
           (.loop
            (.seq
             (.reg [
               ⟨(some 72), none, .bin .lss (.t 71) (.t 70)⟩])
             (.seq
              (.ite (.t 72)
               .skip
               (.exit 4))
              (.seq
               (.blk 5
                (.seq
                 (.reg [
                   ⟨(some 73), none, .mv (.t 71)⟩,
                   ⟨(some 8), none, .mv (.t 73)⟩])
                 (.seq
                  (.reg [
                    ⟨(some 9), none, .mv (.c (.i .i64 0))⟩])
                  (.blk 6
                   (.loop
                    (.seq
                     (.seq
                      (.reg [
                        ⟨(some 74), none, .mv (.t 9)⟩,
                        ⟨(some 75), none, .mv (.t 8)⟩,
                        ⟨(some 76), none, .bin .leq (.t 74) (.t 75)⟩])
                      (.ite (.t 76)
                       .skip
                       (.exit 6)))
                     (.seq
                      (.blk 7
                       (.seq
                        (.drw [
                          ⟨(some 79), none, .mv (.t 4)⟩,
                          ⟨(some 80), none, .mv (.t 8)⟩,
                          ⟨(some 81), none, .ia 1 (.t 79) (.t 80)⟩,
                          ⟨(some 82), none, .ld none (.t 81)⟩,
                          ⟨(some 83), none, .bin .eql (.t 82) (.c (.i .i64 0))⟩,
                          ⟨(some 84), none, .mv (.t 83)⟩,
                          ⟨(some 85), (some (84, false)), .mv (.t 4)⟩,
                          ⟨(some 86), (some (84, false)), .mv (.t 8)⟩,
                          ⟨(some 87), (some (84, false)), .ia 1 (.t 85) (.t 86)⟩,
                          ⟨(some 88), (some (84, false)), .ld none (.t 87)⟩,
                          ⟨(some 89), (some (84, false)), .mv (.t 4)⟩,
                          ⟨(some 90), (some (84, false)), .mv (.t 9)⟩,
                          ⟨(some 91), (some (84, false)), .ia 1 (.t 89) (.t 90)⟩,
                          ⟨(some 92), (some (84, false)), .ld none (.t 91)⟩,
                          ⟨(some 93), (some (84, false)), .bin .neq (.t 88) (.t 92)⟩,
                          ⟨(some 94), (some (84, false)), .mv (.t 93)⟩,
                          ⟨(some 95), (some (94, true)), .fa 1 (.t 1)⟩,
                          ⟨(some 96), (some (94, true)), .ld none (.t 95)⟩,
                          ⟨(some 97), (some (94, true)), .mv (.t 8)⟩,
                          ⟨(some 98), (some (94, true)), .ia 3 (.t 96) (.t 97)⟩,
                          ⟨(some 99), (some (94, true)), .ld (some 3) (.t 98)⟩,
                          ⟨(some 100), (some (94, true)), .fa 1 (.t 1)⟩,
                          ⟨(some 101), (some (94, true)), .ld none (.t 100)⟩,
                          ⟨(some 102), (some (94, true)), .mv (.t 9)⟩,
                          ⟨(some 103), (some (94, true)), .ia 3 (.t 101) (.t 102)⟩,
                          ⟨(some 104), (some (94, true)), .ld (some 3) (.t 103)⟩,
                          ⟨(some 105), (some (94, true)), .call law10_touch [(.t 99), (.t 104)]⟩,
                          ⟨(some 106), (some (84, false)), .pick (.t 94) (.t 105) (.c (.b false))⟩,
                          ⟨(some 107), none, .pick (.t 84) (.c (.b true)) (.t 106)⟩] [])
                        (.ite (.t 107)
                         (.seq
                          (.reg [
                            ⟨(some 2), none, .mv (.c (.b false))⟩])
                          .ret)
                         .skip)))
                      (.reg [
                        ⟨(some 77), none, .mv (.t 9)⟩,
                        ⟨(some 78), none, .bin .add (.t 77) (.c (.i .i64 1))⟩,
                        ⟨(some 9), none, .mv (.t 78)⟩]))))))))
               (.reg [
                 ⟨(some 108), none, .bin .add (.t 71) (.c (.i .i64 1))⟩,
                 ⟨(some 71), none, .mv (.t 108)⟩])))))))
         (.seq
          (.reg [
            ⟨(some 109), none, .call law10_awake []⟩,
            ⟨(some 2), none, .mv (.t 109)⟩])
          .ret)))))))))
def law10_TopoShells.r : List Rr := [.tmp 2]
abbrev law10_TopoShells.n : Nat := 110
def law10_TopoEuler.c (law10_heavy law10_awake mesh_Join topo_Euler ref10_Euler : FuncId) : C :=
 (.seq
  (.reg [
    ⟨(some 2), none, .box (.t 0)⟩,
    ⟨(some 3), none, .box (.t 1)⟩,
    ⟨(some 4), none, .mv (.c (.b false))⟩])
  (.seq
   (.seq
    (.reg [
      ⟨(some 7), none, .ld (some 2) (.t 2)⟩,
      ⟨(some 8), none, .call law10_heavy [(.t 7)]⟩,
      ⟨(some 9), none, .mv (.t 8)⟩,
      ⟨(some 10), (some (9, false)), .ld (some 2) (.t 3)⟩,
      ⟨(some 11), (some (9, false)), .call law10_heavy [(.t 10)]⟩,
      ⟨(some 12), none, .pick (.t 9) (.c (.b true)) (.t 11)⟩])
    (.ite (.t 12)
     (.seq
      (.reg [
        ⟨(some 13), none, .call law10_awake []⟩,
        ⟨(some 4), none, .mv (.t 13)⟩])
      .ret)
     .skip))
   (.seq
    (.reg [
      ⟨(some 15), none, .ld (some 2) (.t 2)⟩,
      ⟨(some 16), none, .ld (some 2) (.t 3)⟩,
      ⟨(some 17), none, .call mesh_Join [(.t 15), (.t 16)]⟩,
      ⟨(some 14), none, .mv (.t 17)⟩,
      ⟨(some 18), none, .ext (.t 14) 0⟩,
      ⟨(some 19), none, .ext (.t 14) 1⟩,
      ⟨(some 5), none, .alloc [.nil, .nil]⟩,
      ⟨none, none, .st 2 (.t 5) (.t 18)⟩,
      ⟨(some 6), none, .mv (.t 19)⟩])
    (.seq
     (.seq
      (.drw [
        ⟨(some 20), none, .ld (some 2) (.t 2)⟩,
        ⟨(some 21), none, .call topo_Euler [(.t 20)]⟩,
        ⟨(some 22), none, .ld (some 2) (.t 2)⟩,
        ⟨(some 23), none, .call ref10_Euler [(.t 22)]⟩,
        ⟨(some 24), none, .bin .neq (.t 21) (.t 23)⟩] [[], [], [1], [], []])
      (.ite (.t 24)
       (.seq
        (.reg [
          ⟨(some 4), none, .mv (.c (.b false))⟩])
        .ret)
       .skip))
     (.seq
      (.drw [
        ⟨(some 25), none, .mv (.t 6)⟩,
        ⟨(some 26), none, .bin .neq (.t 25) (.c (.i .i64 0))⟩,
        ⟨(some 27), none, .mv (.t 26)⟩,
        ⟨(some 28), (some (27, false)), .ld (some 2) (.t 5)⟩,
        ⟨(some 29), (some (27, false)), .call topo_Euler [(.t 28)]⟩,
        ⟨(some 30), (some (27, false)), .ld (some 2) (.t 2)⟩,
        ⟨(some 31), (some (27, false)), .call topo_Euler [(.t 30)]⟩,
        ⟨(some 32), (some (27, false)), .ld (some 2) (.t 3)⟩,
        ⟨(some 33), (some (27, false)), .call topo_Euler [(.t 32)]⟩,
        ⟨(some 34), (some (27, false)), .bin .add (.t 31) (.t 33)⟩,
        ⟨(some 35), (some (27, false)), .bin .eql (.t 29) (.t 34)⟩,
        ⟨(some 36), none, .pick (.t 27) (.c (.b true)) (.t 35)⟩,
        ⟨(some 37), none, .mv (.t 36)⟩,
        ⟨(some 38), (some (37, true)), .call law10_awake []⟩,
        ⟨(some 39), none, .pick (.t 37) (.t 38) (.c (.b false))⟩,
        ⟨(some 4), none, .mv (.t 39)⟩] [[], [], [], [], [], [4], [], [4, 6], [], [], [], [], [], [], [], []])
      .ret)))))
def law10_TopoEuler.r : List Rr := [.tmp 4]
abbrev law10_TopoEuler.n : Nat := 40
def law10_heavy.c : C :=
 (.seq
  (.reg [
    ⟨(some 1), none, .box (.t 0)⟩,
    ⟨(some 2), none, .mv (.c (.b false))⟩])
  (.seq
   (.reg [
     ⟨(some 3), none, .fa 0 (.t 1)⟩,
     ⟨(some 4), none, .ld none (.t 3)⟩,
     ⟨(some 5), none, .len 0 (.t 4)⟩,
     ⟨(some 6), none, .bin .gtr (.t 5) (.c (.i .i64 150))⟩,
     ⟨(some 7), none, .mv (.t 6)⟩,
     ⟨(some 8), (some (7, false)), .fa 1 (.t 1)⟩,
     ⟨(some 9), (some (7, false)), .ld none (.t 8)⟩,
     ⟨(some 10), (some (7, false)), .len 0 (.t 9)⟩,
     ⟨(some 11), (some (7, false)), .bin .gtr (.t 10) (.c (.i .i64 150))⟩,
     ⟨(some 12), none, .pick (.t 7) (.c (.b true)) (.t 11)⟩,
     ⟨(some 2), none, .mv (.t 12)⟩])
   .ret))
def law10_heavy.r : List Rr := [.tmp 2]
abbrev law10_heavy.n : Nat := 13
def law10_awake.c (law10_example topo_Loops topo_Uses law10_same topo_Edges law10_edges topo_Boundary topo_Shells topo_Euler topo_Closed : FuncId) : C :=
 (.seq
  (.reg [
    ⟨(some 0), none, .mv (.c (.b false))⟩])
  (.seq
   (.reg [
     ⟨(some 9), none, .build [(.i .i64 0), (.i .i64 0), (.i .i64 0)] [(0, 1, (.c (.i .i64 0))), (1, 1, (.c (.i .i64 1))), (2, 1, (.c (.i .i64 2)))]⟩,
     ⟨(some 10), none, .bsi 3 1 [(.i .i64 0), (.i .i64 0), (.i .i64 0)] [(0, (.t 9))]⟩,
     ⟨(some 11), none, .call law10_example [(.t 10)]⟩,
     ⟨(some 1), none, .alloc [.nil, .nil]⟩,
     ⟨none, none, .st 2 (.t 1) (.t 11)⟩])
   (.seq
    (.reg [
      ⟨(some 12), none, .build [(.i .i64 0), (.i .i64 0), (.i .i64 0)] [(0, 1, (.c (.i .i64 0))), (1, 1, (.c (.i .i64 2))), (2, 1, (.c (.i .i64 1)))]⟩,
      ⟨(some 13), none, .build [(.i .i64 0), (.i .i64 0), (.i .i64 0)] [(0, 1, (.c (.i .i64 0))), (1, 1, (.c (.i .i64 1))), (2, 1, (.c (.i .i64 3)))]⟩,
      ⟨(some 14), none, .build [(.i .i64 0), (.i .i64 0), (.i .i64 0)] [(0, 1, (.c (.i .i64 0))), (1, 1, (.c (.i .i64 3))), (2, 1, (.c (.i .i64 2)))]⟩,
      ⟨(some 15), none, .build [(.i .i64 0), (.i .i64 0), (.i .i64 0)] [(0, 1, (.c (.i .i64 1))), (1, 1, (.c (.i .i64 2))), (2, 1, (.c (.i .i64 3)))]⟩,
      ⟨(some 16), none, .bsi 3 4 [(.i .i64 0), (.i .i64 0), (.i .i64 0)] [(0, (.t 12)), (1, (.t 13)), (2, (.t 14)), (3, (.t 15))]⟩,
      ⟨(some 17), none, .call law10_example [(.t 16)]⟩,
      ⟨(some 2), none, .alloc [.nil, .nil]⟩,
      ⟨none, none, .st 2 (.t 2) (.t 17)⟩])
    (.seq
     (.reg [
       ⟨(some 19), none, .ld (some 2) (.t 1)⟩,
       ⟨(some 20), none, .call topo_Loops [(.t 19)]⟩,
       ⟨(some 18), none, .mv (.t 20)⟩,
       ⟨(some 21), none, .ext (.t 18) 0⟩,
       ⟨(some 22), none, .ext (.t 18) 1⟩,
       ⟨(some 3), none, .mv (.t 21)⟩,
       ⟨(some 4), none, .mv (.t 22)⟩])
     (.seq
      (.reg [
        ⟨(some 24), none, .build [(.i .i64 0), (.i .i64 0), (.i .i64 0)] [(0, 1, (.c (.i .i64 0))), (1, 1, (.c (.i .i64 1))), (2, 1, (.c (.i .i64 2)))]⟩,
        ⟨(some 25), none, .build [(.i .i64 0), (.i .i64 0), (.i .i64 0)] [(0, 1, (.c (.i .i64 0))), (1, 1, (.c (.i .i64 3))), (2, 1, (.c (.i .i64 4)))]⟩,
        ⟨(some 26), none, .bsi 3 2 [(.i .i64 0), (.i .i64 0), (.i .i64 0)] [(0, (.t 24)), (1, (.t 25))]⟩,
        ⟨(some 27), none, .call law10_example [(.t 26)]⟩,
        ⟨(some 28), none, .call topo_Loops [(.t 27)]⟩,
        ⟨(some 23), none, .mv (.t 28)⟩,
        ⟨(some 29), none, .ext (.t 23) 0⟩,
        ⟨(some 30), none, .ext (.t 23) 1⟩,
        ⟨(some 5), none, .mv (.t 29)⟩,
        ⟨(some 6), none, .mv (.t 30)⟩])
      (.seq
       (.reg [
         ⟨(some 32), none, .build [(.i .i64 0), (.i .i64 0), (.i .i64 0)] [(0, 1, (.c (.i .i64 0))), (1, 1, (.c (.i .i64 0))), (2, 1, (.c (.i .i64 1)))]⟩,
         ⟨(some 33), none, .bsi 3 1 [(.i .i64 0), (.i .i64 0), (.i .i64 0)] [(0, (.t 32))]⟩,
         ⟨(some 34), none, .call law10_example [(.t 33)]⟩,
         ⟨(some 35), none, .build [(.i .i64 0), (.i .i64 0)] [(0, 1, (.c (.i .i64 0))), (1, 1, (.c (.i .i64 1)))]⟩,
         ⟨(some 36), none, .call topo_Uses [(.t 34), (.t 35)]⟩,
         ⟨(some 31), none, .mv (.t 36)⟩,
         ⟨(some 37), none, .ext (.t 31) 0⟩,
         ⟨(some 38), none, .ext (.t 31) 1⟩,
         ⟨(some 7), none, .mv (.t 37)⟩,
         ⟨(some 8), none, .mv (.t 38)⟩])
       (.seq
        (.seq
         (.reg [
           ⟨(some 39), none, .mv (.t 4)⟩,
           ⟨(some 40), none, .bin .neq (.t 39) (.c (.i .i64 0))⟩,
           ⟨(some 41), none, .mv (.t 40)⟩,
           ⟨(some 42), (some (41, false)), .mv (.t 6)⟩,
           ⟨(some 43), (some (41, false)), .bin .neq (.t 42) (.c (.i .i64 13))⟩,
           ⟨(some 44), none, .pick (.t 41) (.c (.b true)) (.t 43)⟩,
           ⟨(some 45), none, .mv (.t 44)⟩,
           ⟨(some 46), (some (45, false)), .mv (.t 3)⟩,
           ⟨(some 47), (some (45, false)), .len 0 (.t 46)⟩,
           ⟨(some 48), (some (45, false)), .bin .neq (.t 47) (.c (.i .i64 1))⟩,
           ⟨(some 49), none, .pick (.t 45) (.c (.b true)) (.t 48)⟩,
           ⟨(some 50), none, .mv (.t 49)⟩,
           ⟨(some 51), (some (50, false)), .mv (.t 3)⟩,
           ⟨(some 52), (some (50, false)), .ia 1 (.t 51) (.c (.i .i64 0))⟩,
           ⟨(some 53), (some (50, false)), .ld none (.t 52)⟩,
           ⟨(some 54), (some (50, false)), .bsi 1 3 [(.i .i64 0)] [(0, (.c (.i .i64 0))), (1, (.c (.i .i64 2))), (2, (.c (.i .i64 1)))]⟩,
           ⟨(some 55), (some (50, false)), .call law10_same [(.t 53), (.t 54)]⟩,
           ⟨(some 56), (some (50, false)), .un .not (.t 55)⟩,
           ⟨(some 57), none, .pick (.t 50) (.c (.b true)) (.t 56)⟩,
           ⟨(some 58), none, .mv (.t 57)⟩,
           ⟨(some 59), (some (58, false)), .ld (some 2) (.t 1)⟩,
           ⟨(some 60), (some (58, false)), .call topo_Edges [(.t 59)]⟩,
           ⟨(some 61), (some (58, false)), .build [(.i .i64 0), (.i .i64 0)] [(0, 1, (.c (.i .i64 0))), (1, 1, (.c (.i .i64 1)))]⟩,
           ⟨(some 62), (some (58, false)), .build [(.i .i64 0), (.i .i64 0)] [(0, 1, (.c (.i .i64 0))), (1, 1, (.c (.i .i64 2)))]⟩,
           ⟨(some 63), (some (58, false)), .build [(.i .i64 0), (.i .i64 0)] [(0, 1, (.c (.i .i64 1))), (1, 1, (.c (.i .i64 2)))]⟩,
           ⟨(some 64), (some (58, false)), .bsi 2 3 [(.i .i64 0), (.i .i64 0)] [(0, (.t 61)), (1, (.t 62)), (2, (.t 63))]⟩,
           ⟨(some 65), (some (58, false)), .call law10_edges [(.t 60), (.t 64)]⟩,
           ⟨(some 66), (some (58, false)), .un .not (.t 65)⟩,
           ⟨(some 67), none, .pick (.t 58) (.c (.b true)) (.t 66)⟩])
         (.ite (.t 67)
          (.seq
           (.reg [
             ⟨(some 0), none, .mv (.c (.b false))⟩])
           .ret)
          .skip))
        (.seq
         (.reg [
           ⟨(some 68), none, .mv (.t 7)⟩,
           ⟨(some 69), none, .bin .eql (.t 68) (.c (.i .i64 1))⟩,
           ⟨(some 70), none, .mv (.t 69)⟩,
           ⟨(some 71), (some (70, true)), .mv (.t 8)⟩,
           ⟨(some 72), (some (70, true)), .bin .eql (.t 71) (.c (.i .i64 1))⟩,
           ⟨(some 73), none, .pick (.t 70) (.t 72) (.c (.b false))⟩,
           ⟨(some 74), none, .mv (.t 73)⟩,
           ⟨(some 75), (some (74, true)), .ld (some 2) (.t 1)⟩,
           ⟨(some 76), (some (74, true)), .call topo_Boundary [(.t 75)]⟩,
           ⟨(some 77), (some (74, true)), .build [(.i .i64 0), (.i .i64 0)] [(0, 1, (.c (.i .i64 0))), (1, 1, (.c (.i .i64 1)))]⟩,
           ⟨(some 78), (some (74, true)), .build [(.i .i64 0), (.i .i64 0)] [(0, 1, (.c (.i .i64 1))), (1, 1, (.c (.i .i64 2)))]⟩,
           ⟨(some 79), (some (74, true)), .build [(.i .i64 0), (.i .i64 0)] [(0, 1, (.c (.i .i64 2))), (1, 1, (.c (.i .i64 0)))]⟩,
           ⟨(some 80), (some (74, true)), .bsi 2 3 [(.i .i64 0), (.i .i64 0)] [(0, (.t 77)), (1, (.t 78)), (2, (.t 79))]⟩,
           ⟨(some 81), (some (74, true)), .call law10_edges [(.t 76), (.t 80)]⟩,
           ⟨(some 82), none, .pick (.t 74) (.t 81) (.c (.b false))⟩,
           ⟨(some 83), none, .mv (.t 82)⟩,
           ⟨(some 84), (some (83, true)), .ld (some 2) (.t 1)⟩,
           ⟨(some 85), (some (83, true)), .call topo_Shells [(.t 84)]⟩,
           ⟨(some 86), (some (83, true)), .len 0 (.t 85)⟩,
           ⟨(some 87), (some (83, true)), .bin .eql (.t 86) (.c (.i .i64 1))⟩,
           ⟨(some 88), none, .pick (.t 83) (.t 87) (.c (.b false))⟩,
           ⟨(some 89), none, .mv (.t 88)⟩,
           ⟨(some 90), (some (89, true)), .ld (some 2) (.t 1)⟩,
           ⟨(some 91), (some (89, true)), .call topo_Euler [(.t 90)]⟩,
           ⟨(some 92), (some (89, true)), .bin .eql (.t 91) (.c (.i .i64 1))⟩,
           ⟨(some 93), none, .pick (.t 89) (.t 92) (.c (.b false))⟩,
           ⟨(some 94), none, .mv (.t 93)⟩,
           ⟨(some 95), (some (94, true)), .ld (some 2) (.t 2)⟩,
           ⟨(some 96), (some (94, true)), .call topo_Closed [(.t 95)]⟩,
           ⟨(some 97), none, .pick (.t 94) (.t 96) (.c (.b false))⟩,
           ⟨(some 98), none, .mv (.t 97)⟩,
           ⟨(some 99), (some (98, true)), .ld (some 2) (.t 1)⟩,
           ⟨(some 100), (some (98, true)), .call topo_Closed [(.t 99)]⟩,
           ⟨(some 101), (some (98, true)), .un .not (.t 100)⟩,
           ⟨(some 102), none, .pick (.t 98) (.t 101) (.c (.b false))⟩,
           ⟨(some 103), none, .mv (.t 102)⟩,
           ⟨(some 104), (some (103, true)), .ld (some 2) (.t 2)⟩,
           ⟨(some 105), (some (103, true)), .call topo_Euler [(.t 104)]⟩,
           ⟨(some 106), (some (103, true)), .bin .eql (.t 105) (.c (.i .i64 2))⟩,
           ⟨(some 107), none, .pick (.t 103) (.t 106) (.c (.b false))⟩,
           ⟨(some 108), none, .mv (.t 107)⟩,
           ⟨(some 109), (some (108, true)), .ld (some 2) (.t 2)⟩,
           ⟨(some 110), (some (108, true)), .call topo_Edges [(.t 109)]⟩,
           ⟨(some 111), (some (108, true)), .len 0 (.t 110)⟩,
           ⟨(some 112), (some (108, true)), .bin .eql (.t 111) (.c (.i .i64 6))⟩,
           ⟨(some 113), none, .pick (.t 108) (.t 112) (.c (.b false))⟩,
           ⟨(some 0), none, .mv (.t 113)⟩])
         .ret))))))))
def law10_awake.r : List Rr := [.tmp 0]
abbrev law10_awake.n : Nat := 114
def law10_edges.c : C :=
 (.seq
  (.reg [
    ⟨(some 4), none, .mv (.c (.b false))⟩])
  (.seq
   (.seq
    (.reg [
      ⟨(some 6), none, .mv (.t 0)⟩,
      ⟨(some 7), none, .len 0 (.t 6)⟩,
      ⟨(some 8), none, .mv (.t 1)⟩,
      ⟨(some 9), none, .len 0 (.t 8)⟩,
      ⟨(some 10), none, .bin .neq (.t 7) (.t 9)⟩])
    (.ite (.t 10)
     (.seq
      (.reg [
        ⟨(some 4), none, .mv (.c (.b false))⟩])
      .ret)
     .skip))
   (.seq
    (.seq
     (.reg [
       ⟨(some 11), none, .mv (.t 0)⟩,
       ⟨(some 12), none, .len 0 (.t 11)⟩,
       ⟨(some 13), none, .mv (.c (.i .i64 0))⟩])
     (.blk 0
      (.loop
       (.seq
        (.reg [
          ⟨(some 14), none, .bin .lss (.t 13) (.t 12)⟩])
        (.seq
         (.ite (.t 14)
          .skip
          (.exit 0))
         (.seq
          (.blk 1
           (.seq
            (.reg [
              ⟨(some 15), none, .mv (.t 13)⟩,
              ⟨(some 5), none, .mv (.t 15)⟩])
            (.seq
             (.drw [
               ⟨(some 16), none, .mv (.t 0)⟩,
               ⟨(some 17), none, .mv (.t 5)⟩,
               ⟨(some 18), none, .ia 2 (.t 16) (.t 17)⟩,
               ⟨(some 19), none, .ld (some 2) (.t 18)⟩,
               ⟨(some 20), none, .mv (.t 1)⟩,
               ⟨(some 21), none, .mv (.t 5)⟩,
               ⟨(some 22), none, .ia 2 (.t 20) (.t 21)⟩,
               ⟨(some 23), none, .ld (some 2) (.t 22)⟩,
               ⟨(some 24), none, .eqa [1, 1] true (.t 19) (.t 23)⟩] [])
             (.ite (.t 24)
              (.seq
               (.reg [
                 ⟨(some 4), none, .mv (.c (.b false))⟩])
               .ret)
              .skip))))
          (.reg [
            ⟨(some 25), none, .bin .add (.t 13) (.c (.i .i64 1))⟩,
            ⟨(some 13), none, .mv (.t 25)⟩])))))))
    (.seq
     (.reg [
       ⟨(some 4), none, .mv (.c (.b true))⟩])
     .ret))))
def law10_edges.r : List Rr := [.tmp 4]
abbrev law10_edges.n : Nat := 26
def law10_lists.c (law10_same : FuncId) : C :=
 (.seq
  (.reg [
    ⟨(some 4), none, .mv (.c (.b false))⟩])
  (.seq
   (.seq
    (.reg [
      ⟨(some 6), none, .mv (.t 0)⟩,
      ⟨(some 7), none, .len 0 (.t 6)⟩,
      ⟨(some 8), none, .mv (.t 1)⟩,
      ⟨(some 9), none, .len 0 (.t 8)⟩,
      ⟨(some 10), none, .bin .neq (.t 7) (.t 9)⟩])
    (.ite (.t 10)
     (.seq
      (.reg [
        ⟨(some 4), none, .mv (.c (.b false))⟩])
      .ret)
     .skip))
   (.seq
    (.seq
     (.reg [
       ⟨(some 11), none, .mv (.t 0)⟩,
       ⟨(some 12), none, .len 0 (.t 11)⟩,
       ⟨(some 13), none, .mv (.c (.i .i64 0))⟩])
     (.blk 0
      (.loop
       (.seq
        (.reg [
          ⟨(some 14), none, .bin .lss (.t 13) (.t 12)⟩])
        (.seq
         (.ite (.t 14)
          .skip
          (.exit 0))
         (.seq
          (.blk 1
           (.seq
            (.reg [
              ⟨(some 15), none, .mv (.t 13)⟩,
              ⟨(some 5), none, .mv (.t 15)⟩])
            (.seq
             (.drw [
               ⟨(some 16), none, .mv (.t 0)⟩,
               ⟨(some 17), none, .mv (.t 5)⟩,
               ⟨(some 18), none, .ia 1 (.t 16) (.t 17)⟩,
               ⟨(some 19), none, .ld none (.t 18)⟩,
               ⟨(some 20), none, .mv (.t 1)⟩,
               ⟨(some 21), none, .mv (.t 5)⟩,
               ⟨(some 22), none, .ia 1 (.t 20) (.t 21)⟩,
               ⟨(some 23), none, .ld none (.t 22)⟩,
               ⟨(some 24), none, .call law10_same [(.t 19), (.t 23)]⟩,
               ⟨(some 25), none, .un .not (.t 24)⟩] [])
             (.ite (.t 25)
              (.seq
               (.reg [
                 ⟨(some 4), none, .mv (.c (.b false))⟩])
               .ret)
              .skip))))
          (.reg [
            ⟨(some 26), none, .bin .add (.t 13) (.c (.i .i64 1))⟩,
            ⟨(some 13), none, .mv (.t 26)⟩])))))))
    (.seq
     (.reg [
       ⟨(some 4), none, .mv (.c (.b true))⟩])
     .ret))))
def law10_lists.r : List Rr := [.tmp 4]
abbrev law10_lists.n : Nat := 27
def law10_touch.c (ref10_Directed ref10_Undirected : FuncId) : C :=
 (.seq
  (.reg [
    ⟨(some 2), none, .box (.t 0)⟩,
    ⟨(some 3), none, .box (.t 1)⟩,
    ⟨(some 4), none, .mv (.c (.b false))⟩])
  (.seq
   (.seq
    (.reg [
      ⟨(some 9), none, .ld (some 3) (.t 2)⟩,
      ⟨(some 10), none, .call ref10_Directed [(.t 9)]⟩,
      ⟨(some 11), none, .len 0 (.t 10)⟩,
      ⟨(some 12), none, .mv (.c (.i .i64 0))⟩])
    (.blk 0
     (.loop
      (.seq
       (.reg [
         ⟨(some 13), none, .bin .lss (.t 12) (.t 11)⟩])
       (.seq
        (.ite (.t 13)
         .skip
         (.exit 0))
        (.seq
         (.blk 1
          (.seq
           (.reg [
             ⟨(some 14), none, .ia 2 (.t 10) (.t 12)⟩,
             ⟨(some 15), none, .ld (some 2) (.t 14)⟩,
             ⟨(some 6), none, .alloc [(.i .i64 0), (.i .i64 0)]⟩,
             ⟨none, none, .st 2 (.t 6) (.t 15)⟩])
           (.seq
            (.reg [
              ⟨(some 16), none, .ld (some 3) (.t 3)⟩,
              ⟨(some 17), none, .call ref10_Directed [(.t 16)]⟩,
              ⟨(some 18), none, .len 0 (.t 17)⟩,
              ⟨(some 19), none, .mv (.c (.i .i64 0))⟩])
            (.blk 2
             (.loop
              (.seq
               (.reg [
                 ⟨(some 20), none, .bin .lss (.t 19) (.t 18)⟩])
               (.seq
                (.ite (.t 20)
                 .skip
                 (.exit 2))
                (.seq
                 (.blk 3
                  (.seq
                   (.reg [
                     ⟨(some 21), none, .ia 2 (.t 17) (.t 19)⟩,
                     ⟨(some 22), none, .ld (some 2) (.t 21)⟩,
                     ⟨(some 8), none, .alloc [(.i .i64 0), (.i .i64 0)]⟩,
                     ⟨none, none, .st 2 (.t 8) (.t 22)⟩])
                   (.seq
                    (.drw [
                      ⟨(some 23), none, .ld (some 2) (.t 6)⟩,
                      ⟨(some 24), none, .call ref10_Undirected [(.t 23)]⟩,
                      ⟨(some 25), none, .ld (some 2) (.t 8)⟩,
                      ⟨(some 26), none, .call ref10_Undirected [(.t 25)]⟩,
                      ⟨(some 27), none, .eqa [1, 1] false (.t 24) (.t 26)⟩] [[], [], [1], [], []])
                    (.ite (.t 27)
                     (.seq
                      (.reg [
                        ⟨(some 4), none, .mv (.c (.b true))⟩])
                      .ret)
                     .skip))))
                 (.reg [
                   ⟨(some 28), none, .bin .add (.t 19) (.c (.i .i64 1))⟩,
                   ⟨(some 19), none, .mv (.t 28)⟩])))))))))
         (.reg [
           ⟨(some 29), none, .bin .add (.t 12) (.c (.i .i64 1))⟩,
           ⟨(some 12), none, .mv (.t 29)⟩])))))))
   (.seq
    (.reg [
      ⟨(some 4), none, .mv (.c (.b false))⟩])
    .ret)))
def law10_touch.r : List Rr := [.tmp 4]
abbrev law10_touch.n : Nat := 30
def law10_example.c : C :=
 (.seq
  (.reg [
    ⟨(some 2), none, .alloc [.nil, .nil]⟩])
  (.seq
   (.reg [
     ⟨(some 3), none, .build [(.i .i64 0), (.i .i64 0), (.i .i64 0)] []⟩,
     ⟨(some 4), none, .build [(.i .i64 0), (.i .i64 0), (.i .i64 0)] [(0, 1, (.c (.i .i64 1)))]⟩,
     ⟨(some 5), none, .build [(.i .i64 0), (.i .i64 0), (.i .i64 0)] [(1, 1, (.c (.i .i64 1)))]⟩,
     ⟨(some 6), none, .build [(.i .i64 0), (.i .i64 0), (.i .i64 0)] [(2, 1, (.c (.i .i64 1)))]⟩,
     ⟨(some 7), none, .build [(.i .i64 0), (.i .i64 0), (.i .i64 0)] [(0, 1, (.c (.i .i64 2)))]⟩,
     ⟨(some 8), none, .bso 3 5 [(.i .i64 0), (.i .i64 0), (.i .i64 0)] [(0, (.t 3)), (1, (.t 4)), (2, (.t 5)), (3, (.t 6)), (4, (.t 7))]⟩,
     ⟨(some 9), none, .mv (.t 0)⟩,
     ⟨(some 10), none, .build [.nil, .nil] [(0, 1, (.t 8)), (1, 1, (.t 9))]⟩,
     ⟨none, none, .st 2 (.t 2) (.t 10)⟩])
   .ret))
def law10_example.r : List Rr := [.cell 2 (some 2)]
abbrev law10_example.n : Nat := 11
def law10_same.c : C :=
 (.seq
  (.reg [
    ⟨(some 4), none, .mv (.c (.b false))⟩])
  (.seq
   (.seq
    (.reg [
      ⟨(some 6), none, .mv (.t 0)⟩,
      ⟨(some 7), none, .len 0 (.t 6)⟩,
      ⟨(some 8), none, .mv (.t 1)⟩,
      ⟨(some 9), none, .len 0 (.t 8)⟩,
      ⟨(some 10), none, .bin .neq (.t 7) (.t 9)⟩])
    (.ite (.t 10)
     (.seq
      (.reg [
        ⟨(some 4), none, .mv (.c (.b false))⟩])
      .ret)
     .skip))
   (.seq
    (.seq
     (.reg [
       ⟨(some 11), none, .mv (.t 0)⟩,
       ⟨(some 12), none, .len 0 (.t 11)⟩,
       ⟨(some 13), none, .mv (.c (.i .i64 0))⟩])
     (.blk 0
      (.loop
       (.seq
        (.reg [
          ⟨(some 14), none, .bin .lss (.t 13) (.t 12)⟩])
        (.seq
         (.ite (.t 14)
          .skip
          (.exit 0))
         (.seq
          (.blk 1
           (.seq
            (.reg [
              ⟨(some 15), none, .mv (.t 13)⟩,
              ⟨(some 5), none, .mv (.t 15)⟩])
            (.seq
             (.drw [
               ⟨(some 16), none, .mv (.t 0)⟩,
               ⟨(some 17), none, .mv (.t 5)⟩,
               ⟨(some 18), none, .ia 1 (.t 16) (.t 17)⟩,
               ⟨(some 19), none, .ld none (.t 18)⟩,
               ⟨(some 20), none, .mv (.t 1)⟩,
               ⟨(some 21), none, .mv (.t 5)⟩,
               ⟨(some 22), none, .ia 1 (.t 20) (.t 21)⟩,
               ⟨(some 23), none, .ld none (.t 22)⟩,
               ⟨(some 24), none, .bin .neq (.t 19) (.t 23)⟩] [])
             (.ite (.t 24)
              (.seq
               (.reg [
                 ⟨(some 4), none, .mv (.c (.b false))⟩])
               .ret)
              .skip))))
          (.reg [
            ⟨(some 25), none, .bin .add (.t 13) (.c (.i .i64 1))⟩,
            ⟨(some 13), none, .mv (.t 25)⟩])))))))
    (.seq
     (.reg [
       ⟨(some 4), none, .mv (.c (.b true))⟩])
     .ret))))
def law10_same.r : List Rr := [.tmp 4]
abbrev law10_same.n : Nat := 26
def mesh_Join.c (mesh_Check : FuncId) : C :=
 (.seq
  (.reg [
    ⟨(some 2), none, .box (.t 0)⟩,
    ⟨(some 3), none, .box (.t 1)⟩,
    ⟨(some 4), none, .alloc [.nil, .nil]⟩,
    ⟨(some 5), none, .mv (.c (.i .i64 0))⟩])
  (.seq
   (.seq
    (.reg [
      ⟨(some 10), none, .ld (some 2) (.t 2)⟩,
      ⟨(some 11), none, .call mesh_Check [(.t 10)]⟩,
      ⟨(some 12), none, .bin .neq (.t 11) (.c (.i .i64 0))⟩,
      ⟨(some 13), none, .mv (.t 12)⟩,
      ⟨(some 14), (some (13, false)), .ld (some 2) (.t 3)⟩,
      ⟨(some 15), (some (13, false)), .call mesh_Check [(.t 14)]⟩,
      ⟨(some 16), (some (13, false)), .bin .neq (.t 15) (.c (.i .i64 0))⟩,
      ⟨(some 17), none, .pick (.t 13) (.c (.b true)) (.t 16)⟩])
    (.ite (.t 17)
     (.seq
      (.reg [
        ⟨(some 18), none, .build [.nil, .nil] []⟩,
        ⟨none, none, .st 2 (.t 4) (.t 18)⟩,
        ⟨(some 5), none, .mv (.c (.i .i64 1))⟩])
      .ret)
     .skip))
   (.seq
    (.reg [
      ⟨(some 19), none, .fa 0 (.t 2)⟩,
      ⟨(some 20), none, .ld none (.t 19)⟩,
      ⟨(some 21), none, .len 0 (.t 20)⟩,
      ⟨(some 6), none, .mv (.t 21)⟩])
    (.seq
     (.seq
      (.reg [
        ⟨(some 22), none, .mv (.t 6)⟩,
        ⟨(some 23), none, .fa 0 (.t 3)⟩,
        ⟨(some 24), none, .ld none (.t 23)⟩,
        ⟨(some 25), none, .len 0 (.t 24)⟩,
        ⟨(some 26), none, .bin .add (.t 22) (.t 25)⟩,
        ⟨(some 27), none, .bin .gtr (.t 26) (.c (.i .i64 4096))⟩,
        ⟨(some 28), none, .mv (.t 27)⟩,
        ⟨(some 29), (some (28, false)), .fa 1 (.t 2)⟩,
        ⟨(some 30), (some (28, false)), .ld none (.t 29)⟩,
        ⟨(some 31), (some (28, false)), .len 0 (.t 30)⟩,
        ⟨(some 32), (some (28, false)), .fa 1 (.t 3)⟩,
        ⟨(some 33), (some (28, false)), .ld none (.t 32)⟩,
        ⟨(some 34), (some (28, false)), .len 0 (.t 33)⟩,
        ⟨(some 35), (some (28, false)), .bin .add (.t 31) (.t 34)⟩,
        ⟨(some 36), (some (28, false)), .bin .gtr (.t 35) (.c (.i .i64 4096))⟩,
        ⟨(some 37), none, .pick (.t 28) (.c (.b true)) (.t 36)⟩])
      (.ite (.t 37)
       (.seq
        (.reg [
          ⟨(some 38), none, .build [.nil, .nil] []⟩,
          ⟨none, none, .st 2 (.t 4) (.t 38)⟩,
          ⟨(some 5), none, .mv (.c (.i .i64 2))⟩])
        .ret)
       .skip))
     (.seq
      (.drw [
        ⟨(some 39), none, .bso 3 0 [(.i .i64 0), (.i .i64 0), (.i .i64 0)] []⟩,
        ⟨(some 40), none, .fa 0 (.t 2)⟩,
        ⟨(some 41), none, .ld none (.t 40)⟩,
        ⟨(some 42), none, .app 3 24 (.t 39) (.t 41)⟩,
        ⟨(some 43), none, .bso 3 0 [(.i .i64 0), (.i .i64 0), (.i .i64 0)] []⟩,
        ⟨(some 44), none, .fa 1 (.t 2)⟩,
        ⟨(some 45), none, .ld none (.t 44)⟩,
        ⟨(some 46), none, .app 3 24 (.t 43) (.t 45)⟩,
        ⟨(some 47), none, .build [.nil, .nil] [(0, 1, (.t 42)), (1, 1, (.t 46))]⟩,
        ⟨(some 7), none, .alloc [.nil, .nil]⟩,
        ⟨none, none, .st 2 (.t 7) (.t 47)⟩] [[], [], [], [], [], [3], [3], [], [], [], []])
      (.seq
       (.reg [
         ⟨(some 48), none, .fa 0 (.t 7)⟩,
         ⟨(some 49), none, .ld none (.t 48)⟩,
         ⟨(some 50), none, .fa 0 (.t 3)⟩,
         ⟨(some 51), none, .ld none (.t 50)⟩,
         ⟨(some 52), none, .app 3 24 (.t 49) (.t 51)⟩,
         ⟨(some 53), none, .fa 0 (.t 7)⟩,
         ⟨none, none, .st 1 (.t 53) (.t 52)⟩])
       (.seq
        (.seq
         (.reg [
           ⟨(some 54), none, .fa 1 (.t 3)⟩,
           ⟨(some 55), none, .ld none (.t 54)⟩,
           ⟨(some 56), none, .len 0 (.t 55)⟩,
           ⟨(some 57), none, .mv (.c (.i .i64 0))⟩])
         (.blk 0
          (.loop
           (.seq
            (.reg [
              ⟨(some 58), none, .bin .lss (.t 57) (.t 56)⟩])
            (.seq
             (.ite (.t 58)
              .skip
              (.exit 0))
             (.seq
              (.blk 1
               (.seq
                (.reg [
                  ⟨(some 59), none, .ia 3 (.t 55) (.t 57)⟩,
                  ⟨(some 60), none, .ld (some 3) (.t 59)⟩,
                  ⟨(some 9), none, .alloc [(.i .i64 0), (.i .i64 0), (.i .i64 0)]⟩,
                  ⟨none, none, .st 3 (.t 9) (.t 60)⟩])
                (.reg [
                  ⟨(some 61), none, .fa 1 (.t 7)⟩,
                  ⟨(some 62), none, .ld none (.t 61)⟩,
                  ⟨(some 63), none, .fa 0 (.t 9)⟩,
                  ⟨(some 64), none, .ld none (.t 63)⟩,
                  ⟨(some 65), none, .mv (.t 6)⟩,
                  ⟨(some 66), none, .bin .add (.t 64) (.t 65)⟩,
                  ⟨(some 67), none, .fa 1 (.t 9)⟩,
                  ⟨(some 68), none, .ld none (.t 67)⟩,
                  ⟨(some 69), none, .mv (.t 6)⟩,
                  ⟨(some 70), none, .bin .add (.t 68) (.t 69)⟩,
                  ⟨(some 71), none, .fa 2 (.t 9)⟩,
                  ⟨(some 72), none, .ld none (.t 71)⟩,
                  ⟨(some 73), none, .mv (.t 6)⟩,
                  ⟨(some 74), none, .bin .add (.t 72) (.t 73)⟩,
                  ⟨(some 75), none, .build [(.i .i64 0), (.i .i64 0), (.i .i64 0)] [(0, 1, (.t 66)), (1, 1, (.t 70)), (2, 1, (.t 74))]⟩,
                  ⟨(some 76), none, .bsi 3 1 [(.i .i64 0), (.i .i64 0), (.i .i64 0)] [(0, (.t 75))]⟩,
                  ⟨(some 77), none, .app 3 24 (.t 62) (.t 76)⟩,
                  ⟨(some 78), none, .fa 1 (.t 7)⟩,
                  ⟨none, none, .st 1 (.t 78) (.t 77)⟩])))
              (.reg [
                ⟨(some 79), none, .bin .add (.t 57) (.c (.i .i64 1))⟩,
                ⟨(some 57), none, .mv (.t 79)⟩])))))))
        (.seq
         (.reg [
           ⟨(some 80), none, .ld (some 2) (.t 7)⟩,
           ⟨none, none, .st 2 (.t 4) (.t 80)⟩,
           ⟨(some 5), none, .mv (.c (.i .i64 0))⟩])
         .ret))))))))
def mesh_Join.r : List Rr := [.cell 4 (some 2), .tmp 5]
abbrev mesh_Join.n : Nat := 81

end Go.Abs

