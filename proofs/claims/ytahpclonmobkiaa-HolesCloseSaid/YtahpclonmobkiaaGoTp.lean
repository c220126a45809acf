/- The code of functions of the program, the functions that they call left open. -/
import Derived.Test.YtahpclonmobkiaaGoHo
import Derived.Test.YtahpclonmobkiaaGoTk
set_option linter.unusedVariables false
set_option linter.unusedSimpArgs false
namespace Go.Abs

def topo_Edges.c (topo_counted topo_reverse topo_undirected slices_SortFunc_api_Edge_api_Edge topo_order : FuncId) : C :=
 (.seq
  (.reg [
    ⟨(some 1), none, .box (.t 0)⟩,
    ⟨(some 2), none, .mv (.c .nil)⟩])
  (.seq
   (.reg [
     ⟨(some 6), none, .ld (some 2) (.t 1)⟩,
     ⟨(some 7), none, .call topo_counted [(.t 6)]⟩,
     ⟨(some 3), none, .mv (.t 7)⟩])
   (.seq
    (.reg [
      ⟨(some 4), none, .mv (.c .nil)⟩])
    (.seq
     (.seq
      (.reg [
        ⟨(some 8), none, .mv (.t 3)⟩,
        ⟨(some 9), none, .mrng (.t 8)⟩])
      (.blk 0
       (.loop
        (.seq
         (.reg [
           ⟨(some 10), none, .mnx (.t 9)⟩,
           ⟨(some 11), none, .ext (.t 10) 0⟩])
         (.seq
          (.ite (.t 11)
           .skip
           (.exit 0))
          (.blk 1
           (.seq
            (.reg [
              ⟨(some 12), none, .men (.t 9)⟩,
              ⟨(some 13), none, .ext (.t 12) 0⟩,
              ⟨(some 5), none, .alloc [(.i .i64 0), (.i .i64 0)]⟩,
              ⟨none, none, .st 2 (.t 5) (.t 13)⟩])
            (.seq
             (.reg [
               ⟨(some 14), none, .fa 0 (.t 5)⟩,
               ⟨(some 15), none, .ld none (.t 14)⟩,
               ⟨(some 16), none, .fa 1 (.t 5)⟩,
               ⟨(some 17), none, .ld none (.t 16)⟩,
               ⟨(some 18), none, .bin .lss (.t 15) (.t 17)⟩,
               ⟨(some 19), none, .mv (.t 18)⟩,
               ⟨(some 20), (some (19, false)), .mv (.t 3)⟩,
               ⟨(some 21), (some (19, false)), .ld (some 2) (.t 5)⟩,
               ⟨(some 22), (some (19, false)), .call topo_reverse [(.t 21)]⟩,
               ⟨(some 23), (some (19, false)), .lk [1, 1] (.i .i64 0) false (.t 20) (.t 22)⟩,
               ⟨(some 24), (some (19, false)), .bin .eql (.t 23) (.c (.i .i64 0))⟩,
               ⟨(some 25), none, .pick (.t 19) (.c (.b true)) (.t 24)⟩])
             (.ite (.t 25)
              (.reg [
                ⟨(some 26), none, .mv (.t 4)⟩,
                ⟨(some 27), none, .ld (some 2) (.t 5)⟩,
                ⟨(some 28), none, .call topo_undirected [(.t 27)]⟩,
                ⟨(some 29), none, .bsi 2 1 [(.i .i64 0), (.i .i64 0)] [(0, (.t 28))]⟩,
                ⟨(some 30), none, .app 2 16 (.t 26) (.t 29)⟩,
                ⟨(some 4), none, .mv (.t 30)⟩])
              .skip)))))))))
     (.seq
      (.reg [
        ⟨(some 31), none, .mv (.t 4)⟩,
        ⟨(some 32), none, .call slices_SortFunc_api_Edge_api_Edge [(.t 31), (.c (.f topo_order []))]⟩])
      (.seq
       (.reg [
         ⟨(some 33), none, .mv (.t 4)⟩,
         ⟨(some 2), none, .mv (.t 33)⟩])
       .ret))))))
def topo_Edges.r : List Rr := [.tmp 2]
abbrev topo_Edges.n : Nat := 34
def ref10_place.c (ref10_before : FuncId) : C :=
 (.seq
  (.reg [
    ⟨(some 3), none, .box (.t 1)⟩,
    ⟨(some 4), none, .mv (.c (.i .i64 0))⟩])
  (.seq
   (.reg [
     ⟨(some 8), none, .mv (.t 0)⟩,
     ⟨(some 9), none, .len 0 (.t 8)⟩,
     ⟨(some 5), none, .mv (.c (.i .i64 0))⟩,
     ⟨(some 6), none, .mv (.t 9)⟩])
   (.seq
    (.blk 0
     (.loop
      (.seq
       (.seq
        (.reg [
          ⟨(some 10), none, .mv (.t 5)⟩,
          ⟨(some 11), none, .mv (.t 6)⟩,
          ⟨(some 12), none, .bin .lss (.t 10) (.t 11)⟩])
        (.ite (.t 12)
         .skip
         (.exit 0)))
       (.blk 1
        (.seq
         (.reg [
           ⟨(some 13), none, .mv (.t 5)⟩,
           ⟨(some 14), none, .mv (.t 6)⟩,
           ⟨(some 15), none, .bin .add (.t 13) (.t 14)⟩,
           ⟨(some 16), none, .bin .quo (.t 15) (.c (.i .i64 2))⟩,
           ⟨(some 7), none, .mv (.t 16)⟩])
         (.seq
          (.drw [
            ⟨(some 17), none, .mv (.t 0)⟩,
            ⟨(some 18), none, .mv (.t 7)⟩,
            ⟨(some 19), none, .ia 3 (.t 17) (.t 18)⟩,
            ⟨(some 20), none, .fa 0 (.t 19)⟩,
            ⟨(some 21), none, .ld (some 2) (.t 20)⟩,
            ⟨(some 22), none, .ld (some 2) (.t 3)⟩,
            ⟨(some 23), none, .call ref10_before [(.t 21), (.t 22)]⟩] [])
          (.ite (.t 23)
           (.reg [
             ⟨(some 24), none, .mv (.t 7)⟩,
             ⟨(some 25), none, .bin .add (.t 24) (.c (.i .i64 1))⟩,
             ⟨(some 5), none, .mv (.t 25)⟩])
           (.reg [
             ⟨(some 26), none, .mv (.t 7)⟩,
             ⟨(some 6), none, .mv (.t 26)⟩]))))))))
    (.seq
     (.reg [
       ⟨(some 27), none, .mv (.t 5)⟩,
       ⟨(some 4), none, .mv (.t 27)⟩])
     .ret))))
def ref10_place.r : List Rr := [.tmp 4]
abbrev ref10_place.n : Nat := 28
def ref10_number.c (ref10_place : FuncId) : C :=
 (.seq
  (.reg [
    ⟨(some 3), none, .box (.t 1)⟩,
    ⟨(some 4), none, .mv (.c (.i .i64 0))⟩])
  (.seq
   (.reg [
     ⟨(some 6), none, .mv (.t 0)⟩,
     ⟨(some 7), none, .ld (some 2) (.t 3)⟩,
     ⟨(some 8), none, .call ref10_place [(.t 6), (.t 7)]⟩,
     ⟨(some 5), none, .mv (.t 8)⟩])
   (.seq
    (.seq
     (.drw [
       ⟨(some 9), none, .mv (.t 5)⟩,
       ⟨(some 10), none, .mv (.t 0)⟩,
       ⟨(some 11), none, .len 0 (.t 10)⟩,
       ⟨(some 12), none, .bin .lss (.t 9) (.t 11)⟩,
       ⟨(some 13), none, .mv (.t 12)⟩,
       ⟨(some 14), (some (13, true)), .mv (.t 0)⟩,
       ⟨(some 15), (some (13, true)), .mv (.t 5)⟩,
       ⟨(some 16), (some (13, true)), .ia 3 (.t 14) (.t 15)⟩,
       ⟨(some 17), (some (13, true)), .fa 0 (.t 16)⟩,
       ⟨(some 18), (some (13, true)), .ld (some 2) (.t 17)⟩,
       ⟨(some 19), (some (13, true)), .ld (some 2) (.t 3)⟩,
       ⟨(some 20), (some (13, true)), .eqa [1, 1] false (.t 18) (.t 19)⟩,
       ⟨(some 21), none, .pick (.t 13) (.t 20) (.c (.b false))⟩] [])
     (.ite (.t 21)
      (.seq
       (.reg [
         ⟨(some 22), none, .mv (.t 0)⟩,
         ⟨(some 23), none, .mv (.t 5)⟩,
         ⟨(some 24), none, .ia 3 (.t 22) (.t 23)⟩,
         ⟨(some 25), none, .fa 2 (.t 24)⟩,
         ⟨(some 26), none, .ld none (.t 25)⟩,
         ⟨(some 4), none, .mv (.t 26)⟩])
       .ret)
      .skip))
    (.seq
     (.reg [
       ⟨(some 4), none, .mv (.c (.i .i64 0))⟩])
     .ret))))
def ref10_number.r : List Rr := [.tmp 4]
abbrev ref10_number.n : Nat := 27
def ref10_with.c (ref10_place : FuncId) : C :=
 (.seq
  (.reg [
    ⟨(some 3), none, .box (.t 1)⟩,
    ⟨(some 4), none, .mv (.c .nil)⟩])
  (.seq
   (.reg [
     ⟨(some 6), none, .mv (.t 0)⟩,
     ⟨(some 7), none, .ld (some 2) (.t 3)⟩,
     ⟨(some 8), none, .call ref10_place [(.t 6), (.t 7)]⟩,
     ⟨(some 5), none, .mv (.t 8)⟩])
   (.seq
    (.seq
     (.drw [
       ⟨(some 9), none, .mv (.t 5)⟩,
       ⟨(some 10), none, .mv (.t 0)⟩,
       ⟨(some 11), none, .len 0 (.t 10)⟩,
       ⟨(some 12), none, .bin .lss (.t 9) (.t 11)⟩,
       ⟨(some 13), none, .mv (.t 12)⟩,
       ⟨(some 14), (some (13, true)), .mv (.t 0)⟩,
       ⟨(some 15), (some (13, true)), .mv (.t 5)⟩,
       ⟨(some 16), (some (13, true)), .ia 3 (.t 14) (.t 15)⟩,
       ⟨(some 17), (some (13, true)), .fa 0 (.t 16)⟩,
       ⟨(some 18), (some (13, true)), .ld (some 2) (.t 17)⟩,
       ⟨(some 19), (some (13, true)), .ld (some 2) (.t 3)⟩,
       ⟨(some 20), (some (13, true)), .eqa [1, 1] false (.t 18) (.t 19)⟩,
       ⟨(some 21), none, .pick (.t 13) (.t 20) (.c (.b false))⟩] [])
     (.ite (.t 21)
      (.seq
       (.reg [
         ⟨(some 22), none, .mv (.t 0)⟩,
         ⟨(some 4), none, .mv (.t 22)⟩])
       .ret)
      .skip))
    (.seq
     (.reg [
       ⟨(some 23), none, .mv (.t 0)⟩,
       ⟨(some 24), none, .build [(.i .i64 0), (.i .i64 0), (.i .i64 0)] []⟩,
       ⟨(some 25), none, .bsi 3 1 [(.i .i64 0), (.i .i64 0), (.i .i64 0)] [(0, (.t 24))]⟩,
       ⟨(some 26), none, .app 3 24 (.t 23) (.t 25)⟩,
       ⟨(some 0), none, .mv (.t 26)⟩])
     (.seq
      (.drw [
        ⟨(some 27), none, .mv (.t 0)⟩,
        ⟨(some 28), none, .mv (.t 5)⟩,
        ⟨(some 29), none, .bin .add (.t 28) (.c (.i .i64 1))⟩,
        ⟨(some 30), none, .slc 3 (.t 27) (some (.t 29)) none⟩,
        ⟨(some 31), none, .mv (.t 0)⟩,
        ⟨(some 32), none, .mv (.t 5)⟩,
        ⟨(some 33), none, .slc 3 (.t 31) (some (.t 32)) none⟩,
        ⟨(some 34), none, .copy 3 (.t 30) (.t 33)⟩] [])
      (.seq
       (.reg [
         ⟨(some 35), none, .mv (.t 0)⟩,
         ⟨(some 36), none, .mv (.t 5)⟩,
         ⟨(some 37), none, .ld (some 2) (.t 3)⟩,
         ⟨(some 38), none, .build [(.i .i64 0), (.i .i64 0), (.i .i64 0)] [(0, 2, (.t 37))]⟩,
         ⟨(some 39), none, .ia 3 (.t 35) (.t 36)⟩,
         ⟨none, none, .st 3 (.t 39) (.t 38)⟩])
       (.seq
        (.reg [
          ⟨(some 40), none, .mv (.t 0)⟩,
          ⟨(some 4), none, .mv (.t 40)⟩])
        .ret)))))))
def ref10_with.r : List Rr := [.tmp 4]
abbrev ref10_with.n : Nat := 41
def ref10_counts.c (ref10_Directed ref10_with ref10_place : FuncId) : C :=
 (.seq
  (.reg [
    ⟨(some 1), none, .box (.t 0)⟩,
    ⟨(some 2), none, .mv (.c .nil)⟩])
  (.seq
   (.reg [
     ⟨(some 3), none, .mv (.c .nil)⟩])
   (.seq
    (.seq
     (.reg [
       ⟨(some 8), none, .fa 1 (.t 1)⟩,
       ⟨(some 9), none, .ld none (.t 8)⟩,
       ⟨(some 10), none, .len 0 (.t 9)⟩,
       ⟨(some 11), none, .mv (.c (.i .i64 0))⟩])
     (.blk 0
      (.loop
       (.seq
        (.reg [
          ⟨(some 12), none, .bin .lss (.t 11) (.t 10)⟩])
        (.seq
         (.ite (.t 12)
          .skip
          (.exit 0))
         (.seq
          (.blk 1
           (.seq
            (.reg [
              ⟨(some 13), none, .ia 3 (.t 9) (.t 11)⟩,
              ⟨(some 14), none, .ld (some 3) (.t 13)⟩,
              ⟨(some 5), none, .alloc [(.i .i64 0), (.i .i64 0), (.i .i64 0)]⟩,
              ⟨none, none, .st 3 (.t 5) (.t 14)⟩])
            (.seq
             (.reg [
               ⟨(some 15), none, .ld (some 3) (.t 5)⟩,
               ⟨(some 16), none, .call ref10_Directed [(.t 15)]⟩,
               ⟨(some 17), none, .len 0 (.t 16)⟩,
               ⟨(some 18), none, .mv (.c (.i .i64 0))⟩])
             (.blk 2
              (.loop
               (.seq
                (.reg [
                  ⟨(some 19), none, .bin .lss (.t 18) (.t 17)⟩])
                (.seq
                 (.ite (.t 19)
                  .skip
                  (.exit 2))
                 (.seq
                  (.blk 3
                   (.seq
                    (.reg [
                      ⟨(some 20), none, .ia 2 (.t 16) (.t 18)⟩,
                      ⟨(some 21), none, .ld (some 2) (.t 20)⟩,
                      ⟨(some 7), none, .alloc [(.i .i64 0), (.i .i64 0)]⟩,
                      ⟨none, none, .st 2 (.t 7) (.t 21)⟩])
                    (.seq
                     (.reg [
                       ⟨(some 22), none, .mv (.t 3)⟩,
                       ⟨(some 23), none, .ld (some 2) (.t 7)⟩,
                       ⟨(some 24), none, .call ref10_with [(.t 22), (.t 23)]⟩,
                       ⟨(some 3), none, .mv (.t 24)⟩])
                     (.reg [
                       ⟨(some 25), none, .mv (.t 3)⟩,
                       ⟨(some 26), none, .mv (.t 3)⟩,
                       ⟨(some 27), none, .ld (some 2) (.t 7)⟩,
                       ⟨(some 28), none, .call ref10_place [(.t 26), (.t 27)]⟩,
                       ⟨(some 29), none, .ia 3 (.t 25) (.t 28)⟩,
                       ⟨(some 30), none, .fa 2 (.t 29)⟩,
                       ⟨(some 31), none, .ld none (.t 30)⟩,
                       ⟨(some 32), none, .bin .add (.t 31) (.c (.i .i64 1))⟩,
                       ⟨(some 33), none, .ia 3 (.t 25) (.t 28)⟩,
                       ⟨(some 34), none, .fa 2 (.t 33)⟩,
                       ⟨none, none, .st 1 (.t 34) (.t 32)⟩]))))
                  (.reg [
                    ⟨(some 35), none, .bin .add (.t 18) (.c (.i .i64 1))⟩,
                    ⟨(some 18), none, .mv (.t 35)⟩])))))))))
          (.reg [
            ⟨(some 36), none, .bin .add (.t 11) (.c (.i .i64 1))⟩,
            ⟨(some 11), none, .mv (.t 36)⟩])))))))
    (.seq
     (.reg [
       ⟨(some 37), none, .mv (.t 3)⟩,
       ⟨(some 2), none, .mv (.t 37)⟩])
     .ret))))
def ref10_counts.r : List Rr := [.tmp 2]
abbrev ref10_counts.n : Nat := 38
def ref10_undirected.c (ref10_Directed ref10_Undirected ref10_with : FuncId) : C :=
 (.seq
  (.reg [
    ⟨(some 1), none, .box (.t 0)⟩,
    ⟨(some 2), none, .mv (.c .nil)⟩])
  (.seq
   (.reg [
     ⟨(some 3), none, .mv (.c .nil)⟩])
   (.seq
    (.seq
     (.reg [
       ⟨(some 8), none, .fa 1 (.t 1)⟩,
       ⟨(some 9), none, .ld none (.t 8)⟩,
       ⟨(some 10), none, .len 0 (.t 9)⟩,
       ⟨(some 11), none, .mv (.c (.i .i64 0))⟩])
     (.blk 0
      (.loop
       (.seq
        (.reg [
          ⟨(some 12), none, .bin .lss (.t 11) (.t 10)⟩])
        (.seq
         (.ite (.t 12)
          .skip
          (.exit 0))
         (.seq
          (.blk 1
           (.seq
            (.reg [
              ⟨(some 13), none, .ia 3 (.t 9) (.t 11)⟩,
              ⟨(some 14), none, .ld (some 3) (.t 13)⟩,
              ⟨(some 5), none, .alloc [(.i .i64 0), (.i .i64 0), (.i .i64 0)]⟩,
              ⟨none, none, .st 3 (.t 5) (.t 14)⟩])
            (.seq
             (.reg [
               ⟨(some 15), none, .ld (some 3) (.t 5)⟩,
               ⟨(some 16), none, .call ref10_Directed [(.t 15)]⟩,
               ⟨(some 17), none, .len 0 (.t 16)⟩,
               ⟨(some 18), none, .mv (.c (.i .i64 0))⟩])
             (.blk 2
              (.loop
               (.seq
                (.reg [
                  ⟨(some 19), none, .bin .lss (.t 18) (.t 17)⟩])
                (.seq
                 (.ite (.t 19)
                  .skip
                  (.exit 2))
                 (.seq
                  (.blk 3
                   (.seq
                    (.reg [
                      ⟨(some 20), none, .ia 2 (.t 16) (.t 18)⟩,
                      ⟨(some 21), none, .ld (some 2) (.t 20)⟩,
                      ⟨(some 7), none, .alloc [(.i .i64 0), (.i .i64 0)]⟩,
                      ⟨none, none, .st 2 (.t 7) (.t 21)⟩])
                    (.reg [
                      ⟨(some 22), none, .mv (.t 3)⟩,
                      ⟨(some 23), none, .ld (some 2) (.t 7)⟩,
                      ⟨(some 24), none, .call ref10_Undirected [(.t 23)]⟩,
                      ⟨(some 25), none, .call ref10_with [(.t 22), (.t 24)]⟩,
                      ⟨(some 3), none, .mv (.t 25)⟩])))
                  (.reg [
                    ⟨(some 26), none, .bin .add (.t 18) (.c (.i .i64 1))⟩,
                    ⟨(some 18), none, .mv (.t 26)⟩])))))))))
          (.reg [
            ⟨(some 27), none, .bin .add (.t 11) (.c (.i .i64 1))⟩,
            ⟨(some 11), none, .mv (.t 27)⟩])))))))
    (.seq
     (.reg [
       ⟨(some 28), none, .mv (.t 3)⟩,
       ⟨(some 2), none, .mv (.t 28)⟩])
     .ret))))
def ref10_undirected.r : List Rr := [.tmp 2]
abbrev ref10_undirected.n : Nat := 29
def ref10_Edges.c (ref07_Check ref10_undirected : FuncId) : C :=
 (.seq
  (.reg [
    ⟨(some 1), none, .box (.t 0)⟩,
    ⟨(some 2), none, .mv (.c .nil)⟩])
  (.seq
   (.seq
    (.reg [
      ⟨(some 6), none, .ld (some 2) (.t 1)⟩,
      ⟨(some 7), none, .call ref07_Check [(.t 6)]⟩,
      ⟨(some 8), none, .bin .neq (.t 7) (.c (.i .i64 0))⟩])
    (.ite (.t 8)
     (.seq
      (.reg [
        ⟨(some 2), none, .mv (.c .nil)⟩])
      .ret)
     .skip))
   (.seq
    (.reg [
      ⟨(some 3), none, .mv (.c .nil)⟩])
    (.seq
     (.seq
      (.reg [
        ⟨(some 9), none, .ld (some 2) (.t 1)⟩,
        ⟨(some 10), none, .call ref10_undirected [(.t 9)]⟩,
        ⟨(some 11), none, .len 0 (.t 10)⟩,
        ⟨(some 12), none, .mv (.c (.i .i64 0))⟩])
      (.blk 0
       (.loop
        (.seq
         (.reg [
           ⟨(some 13), none, .bin .lss (.t 12) (.t 11)⟩])
         (.seq
          (.ite (.t 13)
           .skip
           (.exit 0))
          (.seq
           (.blk 1
            (.seq
             (.reg [
               ⟨(some 14), none, .ia 3 (.t 10) (.t 12)⟩,
               ⟨(some 15), none, .ld (some 3) (.t 14)⟩,
               ⟨(some 5), none, .alloc [(.i .i64 0), (.i .i64 0), (.i .i64 0)]⟩,
               ⟨none, none, .st 3 (.t 5) (.t 15)⟩])
             (.reg [
               ⟨(some 16), none, .mv (.t 3)⟩,
               ⟨(some 17), none, .fa 0 (.t 5)⟩,
               ⟨(some 18), none, .ld (some 2) (.t 17)⟩,
               ⟨(some 19), none, .bsi 2 1 [(.i .i64 0), (.i .i64 0)] [(0, (.t 18))]⟩,
               ⟨(some 20), none, .app 2 16 (.t 16) (.t 19)⟩,
               ⟨(some 3), none, .mv (.t 20)⟩])))
           (.reg [
             ⟨(some 21), none, .bin .add (.t 12) (.c (.i .i64 1))⟩,
             ⟨(some 12), none, .mv (.t 21)⟩])))))))
     (.seq
      (.reg [
        ⟨(some 22), none, .mv (.t 3)⟩,
        ⟨(some 2), none, .mv (.t 22)⟩])
      .ret)))))
def ref10_Edges.r : List Rr := [.tmp 2]
abbrev ref10_Edges.n : Nat := 23
def ref10_Uses.c (ref07_Check ref10_counts ref10_number ref10_reverse : FuncId) : C :=
 (.seq
  (.reg [
    ⟨(some 2), none, .box (.t 0)⟩,
    ⟨(some 3), none, .box (.t 1)⟩,
    ⟨(some 4), none, .mv (.c (.i .i64 0))⟩,
    ⟨(some 5), none, .mv (.c (.i .i64 0))⟩])
  (.seq
   (.seq
    (.reg [
      ⟨(some 7), none, .ld (some 2) (.t 2)⟩,
      ⟨(some 8), none, .call ref07_Check [(.t 7)]⟩,
      ⟨(some 9), none, .bin .neq (.t 8) (.c (.i .i64 0))⟩])
    (.ite (.t 9)
     (.seq
      (.reg [
        ⟨(some 4), none, .mv (.c (.i .i64 0))⟩,
        ⟨(some 5), none, .mv (.c (.i .i64 0))⟩])
      .ret)
     .skip))
   (.seq
    (.reg [
      ⟨(some 10), none, .ld (some 2) (.t 2)⟩,
      ⟨(some 11), none, .call ref10_counts [(.t 10)]⟩,
      ⟨(some 6), none, .mv (.t 11)⟩])
    (.seq
     (.drw [
       ⟨(some 12), none, .mv (.t 6)⟩,
       ⟨(some 13), none, .ld (some 2) (.t 3)⟩,
       ⟨(some 14), none, .call ref10_number [(.t 12), (.t 13)]⟩,
       ⟨(some 15), none, .mv (.t 6)⟩,
       ⟨(some 16), none, .ld (some 2) (.t 3)⟩,
       ⟨(some 17), none, .call ref10_reverse [(.t 16)]⟩,
       ⟨(some 18), none, .call ref10_number [(.t 15), (.t 17)]⟩,
       ⟨(some 4), none, .mv (.t 14)⟩,
       ⟨(some 5), none, .mv (.t 18)⟩] [[], [], [], [], [2], [], [], [], []])
     .ret))))
def ref10_Uses.r : List Rr := [.tmp 4, .tmp 5]
abbrev ref10_Uses.n : Nat := 19
def ref10_Boundary.c (ref07_Check ref10_counts ref10_reverse ref10_number : FuncId) : C :=
 (.seq
  (.reg [
    ⟨(some 1), none, .box (.t 0)⟩,
    ⟨(some 2), none, .mv (.c .nil)⟩])
  (.seq
   (.seq
    (.reg [
      ⟨(some 7), none, .ld (some 2) (.t 1)⟩,
      ⟨(some 8), none, .call ref07_Check [(.t 7)]⟩,
      ⟨(some 9), none, .bin .neq (.t 8) (.c (.i .i64 0))⟩])
    (.ite (.t 9)
     (.seq
      (.reg [
        ⟨(some 2), none, .mv (.c .nil)⟩])
      .ret)
     .skip))
   (.seq
    (.reg [
      ⟨(some 10), none, .ld (some 2) (.t 1)⟩,
      ⟨(some 11), none, .call ref10_counts [(.t 10)]⟩,
      ⟨(some 3), none, .mv (.t 11)⟩])
    (.seq
     (.reg [
       ⟨(some 4), none, .mv (.c .nil)⟩])
     (.seq
      (.seq
       (.reg [
         ⟨(some 12), none, .mv (.t 3)⟩,
         ⟨(some 13), none, .len 0 (.t 12)⟩,
         ⟨(some 14), none, .mv (.c (.i .i64 0))⟩])
       (.blk 0
        (.loop
         (.seq
          (.reg [
            ⟨(some 15), none, .bin .lss (.t 14) (.t 13)⟩])
          (.seq
           (.ite (.t 15)
            .skip
            (.exit 0))
           (.seq
            (.blk 1
             (.seq
              (.reg [
                ⟨(some 16), none, .ia 3 (.t 12) (.t 14)⟩,
                ⟨(some 17), none, .ld (some 3) (.t 16)⟩,
                ⟨(some 6), none, .alloc [(.i .i64 0), (.i .i64 0), (.i .i64 0)]⟩,
                ⟨none, none, .st 3 (.t 6) (.t 17)⟩])
              (.seq
               (.drw [
                 ⟨(some 18), none, .fa 2 (.t 6)⟩,
                 ⟨(some 19), none, .ld none (.t 18)⟩,
                 ⟨(some 20), none, .mv (.t 3)⟩,
                 ⟨(some 21), none, .fa 0 (.t 6)⟩,
                 ⟨(some 22), none, .ld (some 2) (.t 21)⟩,
                 ⟨(some 23), none, .call ref10_reverse [(.t 22)]⟩,
                 ⟨(some 24), none, .call ref10_number [(.t 20), (.t 23)]⟩,
                 ⟨(some 25), none, .bin .gtr (.t 19) (.t 24)⟩] [[], [], [], [], [], [0, 1], [0, 1], []])
               (.ite (.t 25)
                (.reg [
                  ⟨(some 26), none, .mv (.t 4)⟩,
                  ⟨(some 27), none, .fa 0 (.t 6)⟩,
                  ⟨(some 28), none, .ld (some 2) (.t 27)⟩,
                  ⟨(some 29), none, .bsi 2 1 [(.i .i64 0), (.i .i64 0)] [(0, (.t 28))]⟩,
                  ⟨(some 30), none, .app 2 16 (.t 26) (.t 29)⟩,
                  ⟨(some 4), none, .mv (.t 30)⟩])
                .skip))))
            (.reg [
              ⟨(some 31), none, .bin .add (.t 14) (.c (.i .i64 1))⟩,
              ⟨(some 14), none, .mv (.t 31)⟩])))))))
      (.seq
       (.reg [
         ⟨(some 32), none, .mv (.t 4)⟩,
         ⟨(some 2), none, .mv (.t 32)⟩])
       .ret))))))
def ref10_Boundary.r : List Rr := [.tmp 2]
abbrev ref10_Boundary.n : Nat := 33
def ref10_simple.c (ref10_counts ref10_number ref10_reverse : FuncId) : C :=
 (.seq
  (.reg [
    ⟨(some 2), none, .box (.t 0)⟩,
    ⟨(some 4), none, .mv (.c (.b false))⟩])
  (.seq
   (.reg [
     ⟨(some 8), none, .ld (some 2) (.t 2)⟩,
     ⟨(some 9), none, .call ref10_counts [(.t 8)]⟩,
     ⟨(some 5), none, .mv (.t 9)⟩])
   (.seq
    (.seq
     (.reg [
       ⟨(some 10), none, .mv (.t 1)⟩,
       ⟨(some 11), none, .len 0 (.t 10)⟩,
       ⟨(some 12), none, .mv (.c (.i .i64 0))⟩])
     (.blk 0
      (.loop
       (.seq
        (.reg [
          ⟨(some 13), none, .bin .lss (.t 12) (.t 11)⟩])
        (.seq
         (.ite (.t 13)
          .skip
          (.exit 0))
         (.seq
          (.blk 1
           (.seq
            (.reg [
              ⟨(some 14), none, .mv (.t 12)⟩,
              ⟨(some 15), none, .ia 2 (.t 10) (.t 12)⟩,
              ⟨(some 16), none, .ld (some 2) (.t 15)⟩,
              ⟨(some 7), none, .alloc [(.i .i64 0), (.i .i64 0)]⟩,
              ⟨(some 6), none, .mv (.t 14)⟩,
              ⟨none, none, .st 2 (.t 7) (.t 16)⟩])
            (.seq
             (.drw [
               ⟨(some 17), none, .mv (.t 5)⟩,
               ⟨(some 18), none, .ld (some 2) (.t 7)⟩,
               ⟨(some 19), none, .call ref10_number [(.t 17), (.t 18)]⟩,
               ⟨(some 20), none, .bin .neq (.t 19) (.c (.i .i64 1))⟩,
               ⟨(some 21), none, .mv (.t 20)⟩,
               ⟨(some 22), (some (21, false)), .mv (.t 5)⟩,
               ⟨(some 23), (some (21, false)), .ld (some 2) (.t 7)⟩,
               ⟨(some 24), (some (21, false)), .call ref10_reverse [(.t 23)]⟩,
               ⟨(some 25), (some (21, false)), .call ref10_number [(.t 22), (.t 24)]⟩,
               ⟨(some 26), (some (21, false)), .bin .neq (.t 25) (.c (.i .i64 0))⟩,
               ⟨(some 27), none, .pick (.t 21) (.c (.b true)) (.t 26)⟩,
               ⟨(some 28), none, .mv (.t 27)⟩,
               ⟨(some 29), (some (28, false)), .mv (.t 6)⟩,
               ⟨(some 30), (some (28, false)), .bin .gtr (.t 29) (.c (.i .i64 0))⟩,
               ⟨(some 31), (some (28, false)), .mv (.t 30)⟩,
               ⟨(some 32), (some (31, true)), .mv (.t 1)⟩,
               ⟨(some 33), (some (31, true)), .mv (.t 6)⟩,
               ⟨(some 34), (some (31, true)), .bin .sub (.t 33) (.c (.i .i64 1))⟩,
               ⟨(some 35), (some (31, true)), .ia 2 (.t 32) (.t 34)⟩,
               ⟨(some 36), (some (31, true)), .fa 0 (.t 35)⟩,
               ⟨(some 37), (some (31, true)), .ld none (.t 36)⟩,
               ⟨(some 38), (some (31, true)), .fa 0 (.t 7)⟩,
               ⟨(some 39), (some (31, true)), .ld none (.t 38)⟩,
               ⟨(some 40), (some (31, true)), .bin .eql (.t 37) (.t 39)⟩,
               ⟨(some 41), (some (28, false)), .pick (.t 31) (.t 40) (.c (.b false))⟩,
               ⟨(some 42), none, .pick (.t 28) (.c (.b true)) (.t 41)⟩] [])
             (.ite (.t 42)
              (.seq
               (.reg [
                 ⟨(some 4), none, .mv (.c (.b false))⟩])
               .ret)
              .skip))))
          (.reg [
            ⟨(some 43), none, .bin .add (.t 12) (.c (.i .i64 1))⟩,
            ⟨(some 12), none, .mv (.t 43)⟩])))))))
    (.seq
     (.reg [
       ⟨(some 4), none, .mv (.c (.b true))⟩])
     .ret))))
def ref10_simple.r : List Rr := [.tmp 4]
abbrev ref10_simple.n : Nat := 44
def ref10_source.c : C :=
 (.seq
  (.reg [
    ⟨(some 4), none, .mv (.c (.i .i64 0))⟩])
  (.seq
   (.seq
    (.reg [
      ⟨(some 7), none, .mv (.t 0)⟩,
      ⟨(some 8), none, .len 0 (.t 7)⟩,
      ⟨(some 9), none, .mv (.c (.i .i64 0))⟩])
    (.blk 0
     (.loop
      (.seq
       (.reg [
         ⟨(some 10), none, .bin .lss (.t 9) (.t 8)⟩])
       (.seq
        (.ite (.t 10)
         .skip
         (.exit 0))
        (.seq
         (.blk 1
          (.seq
           (.reg [
             ⟨(some 11), none, .ia 2 (.t 7) (.t 9)⟩,
             ⟨(some 12), none, .ld (some 2) (.t 11)⟩,
             ⟨(some 6), none, .alloc [(.i .i64 0), (.i .i64 0)]⟩,
             ⟨none, none, .st 2 (.t 6) (.t 12)⟩])
           (.seq
            (.reg [
              ⟨(some 13), none, .fa 1 (.t 6)⟩,
              ⟨(some 14), none, .ld none (.t 13)⟩,
              ⟨(some 15), none, .mv (.t 1)⟩,
              ⟨(some 16), none, .bin .eql (.t 14) (.t 15)⟩])
            (.ite (.t 16)
             (.seq
              (.reg [
                ⟨(some 17), none, .fa 0 (.t 6)⟩,
                ⟨(some 18), none, .ld none (.t 17)⟩,
                ⟨(some 4), none, .mv (.t 18)⟩])
              .ret)
             .skip))))
         (.reg [
           ⟨(some 19), none, .bin .add (.t 9) (.c (.i .i64 1))⟩,
           ⟨(some 9), none, .mv (.t 19)⟩])))))))
   (.seq
    (.reg [
      ⟨(some 20), none, .mv (.t 1)⟩,
      ⟨(some 4), none, .mv (.t 20)⟩])
    .ret)))
def ref10_source.r : List Rr := [.tmp 4]
abbrev ref10_source.n : Nat := 21
def ref10_Loops.c (ref07_Check ref10_Boundary ref10_simple ref10_source : FuncId) : C :=
 (.seq
  (.reg [
    ⟨(some 1), none, .box (.t 0)⟩,
    ⟨(some 2), none, .mv (.c .nil)⟩,
    ⟨(some 3), none, .mv (.c (.i .i64 0))⟩])
  (.seq
   (.reg [
     ⟨(some 12), none, .ld (some 2) (.t 1)⟩,
     ⟨(some 13), none, .call ref07_Check [(.t 12)]⟩,
     ⟨(some 4), none, .mv (.t 13)⟩])
   (.seq
    (.seq
     (.reg [
       ⟨(some 14), none, .mv (.t 4)⟩,
       ⟨(some 15), none, .bin .neq (.t 14) (.c (.i .i64 0))⟩])
     (.ite (.t 15)
      (.seq
       (.reg [
         ⟨(some 16), none, .mv (.t 4)⟩,
         ⟨(some 2), none, .mv (.c .nil)⟩,
         ⟨(some 3), none, .mv (.t 16)⟩])
       .ret)
      .skip))
    (.seq
     (.reg [
       ⟨(some 17), none, .ld (some 2) (.t 1)⟩,
       ⟨(some 18), none, .call ref10_Boundary [(.t 17)]⟩,
       ⟨(some 5), none, .mv (.t 18)⟩])
     (.seq
      (.seq
       (.reg [
         ⟨(some 19), none, .ld (some 2) (.t 1)⟩,
         ⟨(some 20), none, .mv (.t 5)⟩,
         ⟨(some 21), none, .call ref10_simple [(.t 19), (.t 20)]⟩,
         ⟨(some 22), none, .un .not (.t 21)⟩])
       (.ite (.t 22)
        (.seq
         (.reg [
           ⟨(some 2), none, .mv (.c .nil)⟩,
           ⟨(some 3), none, .mv (.c (.i .i64 13))⟩])
         .ret)
        .skip))
      (.seq
       (.reg [
         ⟨(some 23), none, .fa 0 (.t 1)⟩,
         ⟨(some 24), none, .ld none (.t 23)⟩,
         ⟨(some 25), none, .len 0 (.t 24)⟩,
         ⟨(some 26), none, .mks 1 1 [(.b false)] (.t 25)⟩,
         ⟨(some 6), none, .mv (.t 26)⟩])
       (.seq
        (.reg [
          ⟨(some 7), none, .mv (.c .nil)⟩])
        (.seq
         (.seq
          (.reg [
            ⟨(some 27), none, .mv (.t 5)⟩,
            ⟨(some 28), none, .len 0 (.t 27)⟩,
            ⟨(some 29), none, .mv (.c (.i .i64 0))⟩])
          (.blk 0
           (.loop
            (.seq
             (.reg [
               ⟨(some 30), none, .bin .lss (.t 29) (.t 28)⟩])
             (.seq
              (.ite (.t 30)
               .skip
               (.exit 0))
              (.seq
               (.blk 1
                (.seq
                 (.reg [
                   ⟨(some 31), none, .ia 2 (.t 27) (.t 29)⟩,
                   ⟨(some 32), none, .ld (some 2) (.t 31)⟩,
                   ⟨(some 9), none, .alloc [(.i .i64 0), (.i .i64 0)]⟩,
                   ⟨none, none, .st 2 (.t 9) (.t 32)⟩])
                 (.seq
                  (.seq
                   (.reg [
                     ⟨(some 33), none, .mv (.t 6)⟩,
                     ⟨(some 34), none, .fa 0 (.t 9)⟩,
                     ⟨(some 35), none, .ld none (.t 34)⟩,
                     ⟨(some 36), none, .ia 1 (.t 33) (.t 35)⟩,
                     ⟨(some 37), none, .ld none (.t 36)⟩])
                   (.ite (.t 37)
                    (.exit 1)
                    .skip))
                  (.seq
                   (.reg [
                     ⟨(some 10), none, .mv (.c .nil)⟩])
                   (.seq
                    (.seq
                     (.reg [
                       ⟨(some 38), none, .fa 0 (.t 9)⟩,
                       ⟨(some 39), none, .ld none (.t 38)⟩,
                       ⟨(some 11), none, .mv (.t 39)⟩])
                     (.blk 2
                      (.loop
                       (.seq
                        (.seq
                         (.reg [
                           ⟨(some 40), none, .mv (.t 6)⟩,
                           ⟨(some 41), none, .mv (.t 11)⟩,
                           ⟨(some 42), none, .ia 1 (.t 40) (.t 41)⟩,
                           ⟨(some 43), none, .ld none (.t 42)⟩,
                           ⟨(some 44), none, .un .not (.t 43)⟩])
                         (.ite (.t 44)
                          .skip
                          (.exit 2)))
                        (.seq
                         (.blk 3
                          (.seq
                           (.reg [
                             ⟨(some 48), none, .mv (.t 6)⟩,
                             ⟨(some 49), none, .mv (.t 11)⟩,
                             ⟨(some 50), none, .ia 1 (.t 48) (.t 49)⟩,
                             ⟨none, none, .st 1 (.t 50) (.c (.b true))⟩])
                           (.reg [
                             ⟨(some 51), none, .mv (.t 10)⟩,
                             ⟨(some 52), none, .mv (.t 11)⟩,
                             ⟨(some 53), none, .bsi 1 1 [(.i .i64 0)] [(0, (.t 52))]⟩,
                             ⟨(some 54), none, .app 1 8 (.t 51) (.t 53)⟩,
                             ⟨(some 10), none, .mv (.t 54)⟩])))
                         (.reg [
                           ⟨(some 45), none, .mv (.t 5)⟩,
                           ⟨(some 46), none, .mv (.t 11)⟩,
                           ⟨(some 47), none, .call ref10_source [(.t 45), (.t 46)]⟩,
                           ⟨(some 11), none, .mv (.t 47)⟩]))))))
                    (.reg [
                      ⟨(some 55), none, .mv (.t 7)⟩,
                      ⟨(some 56), none, .mv (.t 10)⟩,
                      ⟨(some 57), none, .bso 1 1 [.nil] [(0, (.t 56))]⟩,
                      ⟨(some 58), none, .app 1 24 (.t 55) (.t 57)⟩,
                      ⟨(some 7), none, .mv (.t 58)⟩]))))))
               (.reg [
                 ⟨(some 59), none, .bin .add (.t 29) (.c (.i .i64 1))⟩,
                 ⟨(some 29), none, .mv (.t 59)⟩])))))))
         (.seq
          (.reg [
            ⟨(some 60), none, .mv (.t 7)⟩,
            ⟨(some 2), none, .mv (.t 60)⟩,
            ⟨(some 3), none, .mv (.c (.i .i64 0))⟩])
          .ret)))))))))
def ref10_Loops.r : List Rr := [.tmp 2, .tmp 3]
abbrev ref10_Loops.n : Nat := 61
def ref10_Closed.c (ref07_Check ref10_Boundary : FuncId) : C :=
 (.seq
  (.reg [
    ⟨(some 1), none, .box (.t 0)⟩,
    ⟨(some 2), none, .mv (.c (.b false))⟩])
  (.seq
   (.reg [
     ⟨(some 3), none, .ld (some 2) (.t 1)⟩,
     ⟨(some 4), none, .call ref07_Check [(.t 3)]⟩,
     ⟨(some 5), none, .bin .eql (.t 4) (.c (.i .i64 0))⟩,
     ⟨(some 6), none, .mv (.t 5)⟩,
     ⟨(some 7), (some (6, true)), .ld (some 2) (.t 1)⟩,
     ⟨(some 8), (some (6, true)), .call ref10_Boundary [(.t 7)]⟩,
     ⟨(some 9), (some (6, true)), .len 0 (.t 8)⟩,
     ⟨(some 10), (some (6, true)), .bin .eql (.t 9) (.c (.i .i64 0))⟩,
     ⟨(some 11), none, .pick (.t 6) (.t 10) (.c (.b false))⟩,
     ⟨(some 2), none, .mv (.t 11)⟩])
   .ret))
def ref10_Closed.r : List Rr := [.tmp 2]
abbrev ref10_Closed.n : Nat := 12
def ref10_before.c : C :=
 (.seq
  (.reg [
    ⟨(some 2), none, .box (.t 0)⟩,
    ⟨(some 3), none, .box (.t 1)⟩,
    ⟨(some 4), none, .mv (.c (.b false))⟩])
  (.seq
   (.reg [
     ⟨(some 5), none, .fa 0 (.t 2)⟩,
     ⟨(some 6), none, .ld none (.t 5)⟩,
     ⟨(some 7), none, .fa 0 (.t 3)⟩,
     ⟨(some 8), none, .ld none (.t 7)⟩,
     ⟨(some 9), none, .bin .lss (.t 6) (.t 8)⟩,
     ⟨(some 10), none, .mv (.t 9)⟩,
     ⟨(some 11), (some (10, false)), .fa 0 (.t 2)⟩,
     ⟨(some 12), (some (10, false)), .ld none (.t 11)⟩,
     ⟨(some 13), (some (10, false)), .fa 0 (.t 3)⟩,
     ⟨(some 14), (some (10, false)), .ld none (.t 13)⟩,
     ⟨(some 15), (some (10, false)), .bin .eql (.t 12) (.t 14)⟩,
     ⟨(some 16), (some (10, false)), .mv (.t 15)⟩,
     ⟨(some 17), (some (16, true)), .fa 1 (.t 2)⟩,
     ⟨(some 18), (some (16, true)), .ld none (.t 17)⟩,
     ⟨(some 19), (some (16, true)), .fa 1 (.t 3)⟩,
     ⟨(some 20), (some (16, true)), .ld none (.t 19)⟩,
     ⟨(some 21), (some (16, true)), .bin .lss (.t 18) (.t 20)⟩,
     ⟨(some 22), (some (10, false)), .pick (.t 16) (.t 21) (.c (.b false))⟩,
     ⟨(some 23), none, .pick (.t 10) (.c (.b true)) (.t 22)⟩,
     ⟨(some 4), none, .mv (.t 23)⟩])
   .ret))
def ref10_before.r : List Rr := [.tmp 4]
abbrev ref10_before.n : Nat := 24
def ref10_reverse.c : C :=
 (.seq
  (.reg [
    ⟨(some 1), none, .box (.t 0)⟩,
    ⟨(some 2), none, .alloc [(.i .i64 0), (.i .i64 0)]⟩])
  (.seq
   (.reg [
     ⟨(some 3), none, .fa 1 (.t 1)⟩,
     ⟨(some 4), none, .ld none (.t 3)⟩,
     ⟨(some 5), none, .fa 0 (.t 1)⟩,
     ⟨(some 6), none, .ld none (.t 5)⟩,
     ⟨(some 7), none, .build [(.i .i64 0), (.i .i64 0)] [(0, 1, (.t 4)), (1, 1, (.t 6))]⟩,
     ⟨none, none, .st 2 (.t 2) (.t 7)⟩])
   .ret))
def ref10_reverse.r : List Rr := [.cell 2 (some 2)]
abbrev ref10_reverse.n : Nat := 8
def ref10_Undirected.c : C :=
 (.seq
  (.reg [
    ⟨(some 1), none, .box (.t 0)⟩,
    ⟨(some 2), none, .alloc [(.i .i64 0), (.i .i64 0)]⟩])
  (.seq
   (.reg [
     ⟨(some 3), none, .fa 0 (.t 1)⟩,
     ⟨(some 4), none, .ld none (.t 3)⟩,
     ⟨(some 5), none, .fa 1 (.t 1)⟩,
     ⟨(some 6), none, .ld none (.t 5)⟩,
     ⟨(some 7), none, .mn [(.t 4), (.t 6)]⟩,
     ⟨(some 8), none, .fa 0 (.t 1)⟩,
     ⟨(some 9), none, .ld none (.t 8)⟩,
     ⟨(some 10), none, .fa 1 (.t 1)⟩,
     ⟨(some 11), none, .ld none (.t 10)⟩,
     ⟨(some 12), none, .mx [(.t 9), (.t 11)]⟩,
     ⟨(some 13), none, .build [(.i .i64 0), (.i .i64 0)] [(0, 1, (.t 7)), (1, 1, (.t 12))]⟩,
     ⟨none, none, .st 2 (.t 2) (.t 13)⟩])
   .ret))
def ref10_Undirected.r : List Rr := [.cell 2 (some 2)]
abbrev ref10_Undirected.n : Nat := 14
def ref10_Directed.c : C :=
 (.seq
  (.reg [
    ⟨(some 1), none, .box (.t 0)⟩,
    ⟨(some 2), none, .mv (.c .nil)⟩])
  (.seq
   (.reg [
     ⟨(some 3), none, .mv (.c .nil)⟩])
   (.seq
    (.reg [
      ⟨(some 7), none, .fa 0 (.t 1)⟩,
      ⟨(some 8), none, .ld none (.t 7)⟩,
      ⟨(some 9), none, .fa 1 (.t 1)⟩,
      ⟨(some 10), none, .ld none (.t 9)⟩,
      ⟨(some 11), none, .build [(.i .i64 0), (.i .i64 0)] [(0, 1, (.t 8)), (1, 1, (.t 10))]⟩,
      ⟨(some 12), none, .fa 1 (.t 1)⟩,
      ⟨(some 13), none, .ld none (.t 12)⟩,
      ⟨(some 14), none, .fa 2 (.t 1)⟩,
      ⟨(some 15), none, .ld none (.t 14)⟩,
      ⟨(some 16), none, .build [(.i .i64 0), (.i .i64 0)] [(0, 1, (.t 13)), (1, 1, (.t 15))]⟩,
      ⟨(some 17), none, .fa 2 (.t 1)⟩,
      ⟨(some 18), none, .ld none (.t 17)⟩,
      ⟨(some 19), none, .fa 0 (.t 1)⟩,
      ⟨(some 20), none, .ld none (.t 19)⟩,
      ⟨(some 21), none, .build [(.i .i64 0), (.i .i64 0)] [(0, 1, (.t 18)), (1, 1, (.t 20))]⟩,
      ⟨(some 22), none, .bso 2 3 [(.i .i64 0), (.i .i64 0)] [(0, (.t 11)), (1, (.t 16)), (2, (.t 21))]⟩,
      ⟨(some 4), none, .mv (.t 22)⟩])
    (.seq
     (.seq
      (.reg [
        ⟨(some 23), none, .mv (.t 4)⟩,
        ⟨(some 24), none, .len 0 (.t 23)⟩,
        ⟨(some 25), none, .mv (.c (.i .i64 0))⟩])
      (.blk 0
       (.loop
        (.seq
         (.reg [
           ⟨(some 26), none, .bin .lss (.t 25) (.t 24)⟩])
         (.seq
          (.ite (.t 26)
           .skip
           (.exit 0))
          (.seq
           (.blk 1
            (.seq
             (.reg [
               ⟨(some 27), none, .ia 2 (.t 23) (.t 25)⟩,
               ⟨(some 28), none, .ld (some 2) (.t 27)⟩,
               ⟨(some 6), none, .alloc [(.i .i64 0), (.i .i64 0)]⟩,
               ⟨none, none, .st 2 (.t 6) (.t 28)⟩])
             (.seq
              (.reg [
                ⟨(some 29), none, .fa 0 (.t 6)⟩,
                ⟨(some 30), none, .ld none (.t 29)⟩,
                ⟨(some 31), none, .fa 1 (.t 6)⟩,
                ⟨(some 32), none, .ld none (.t 31)⟩,
                ⟨(some 33), none, .bin .neq (.t 30) (.t 32)⟩])
              (.ite (.t 33)
               (.reg [
                 ⟨(some 34), none, .mv (.t 3)⟩,
                 ⟨(some 35), none, .ld (some 2) (.t 6)⟩,
                 ⟨(some 36), none, .bsi 2 1 [(.i .i64 0), (.i .i64 0)] [(0, (.t 35))]⟩,
                 ⟨(some 37), none, .app 2 16 (.t 34) (.t 36)⟩,
                 ⟨(some 3), none, .mv (.t 37)⟩])
               .skip))))
           (.reg [
             ⟨(some 38), none, .bin .add (.t 25) (.c (.i .i64 1))⟩,
             ⟨(some 25), none, .mv (.t 38)⟩])))))))
     (.seq
      (.reg [
        ⟨(some 39), none, .mv (.t 3)⟩,
        ⟨(some 2), none, .mv (.t 39)⟩])
      .ret)))))
def ref10_Directed.r : List Rr := [.tmp 2]
abbrev ref10_Directed.n : Nat := 40
end Go.Abs

