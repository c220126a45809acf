/- Part of the abstract machine on which the proof stands: its values, code and their soundness against the model. -/
import Derived.Test.YtlmjnmmppffhaaaGoOriD
import Derived.Test.YtlmjnmmppffhaaaGoTal
import Derived.Test.YtlmjnmmppffhaaaGoCsA
import Derived.Test.YtlmjnmmppffhaaaGoHeap
set_option linter.unusedVariables false
set_option linter.unusedSimpArgs false
namespace Go.Abs

def topo_counted.c (mesh_Check topo_edges : FuncId) : C :=
 (.seq
  (.reg [
    ⟨(some 1), none, .box (.t 0)⟩,
    ⟨(some 2), none, .mv (.c .mnil)⟩])
  (.seq
   (.reg [
     ⟨(some 8), none, .mkm none⟩,
     ⟨(some 3), none, .mv (.t 8)⟩])
   (.seq
    (.seq
     (.reg [
       ⟨(some 9), none, .ld (some 2) (.t 1)⟩,
       ⟨(some 10), none, .call mesh_Check [(.t 9)]⟩,
       ⟨(some 11), none, .bin .neq (.t 10) (.c (.i .i64 0))⟩])
     (.ite (.t 11)
      (.seq
       (.reg [
         ⟨(some 12), none, .mv (.t 3)⟩,
         ⟨(some 2), none, .mv (.t 12)⟩])
       .ret)
      .skip))
    (.seq
     (.seq
      (.reg [
        ⟨(some 13), none, .fa 1 (.t 1)⟩,
        ⟨(some 14), none, .ld none (.t 13)⟩,
        ⟨(some 15), none, .len 0 (.t 14)⟩,
        ⟨(some 16), none, .mv (.c (.i .i64 0))⟩])
      (.blk 0
       (.loop
        (.seq
         (.reg [
           ⟨(some 17), none, .bin .lss (.t 16) (.t 15)⟩])
         (.seq
          (.ite (.t 17)
           .skip
           (.exit 0))
          (.seq
           (.blk 1
            (.seq
             (.reg [
               ⟨(some 18), none, .ia 3 (.t 14) (.t 16)⟩,
               ⟨(some 19), none, .ld (some 3) (.t 18)⟩,
               ⟨(some 5), none, .alloc [(.i .i64 0), (.i .i64 0), (.i .i64 0)]⟩,
               ⟨none, none, .st 3 (.t 5) (.t 19)⟩])
             (.seq
              (.reg [
                ⟨(some 20), none, .ld (some 3) (.t 5)⟩,
                ⟨(some 21), none, .call topo_edges [(.t 20)]⟩,
                ⟨(some 22), none, .len 0 (.t 21)⟩,
                ⟨(some 23), none, .mv (.c (.i .i64 0))⟩])
              (.blk 2
               (.loop
                (.seq
                 (.reg [
                   ⟨(some 24), none, .bin .lss (.t 23) (.t 22)⟩])
                 (.seq
                  (.ite (.t 24)
                   .skip
                   (.exit 2))
                  (.seq
                   (.blk 3
                    (.seq
                     (.reg [
                       ⟨(some 25), none, .ia 2 (.t 21) (.t 23)⟩,
                       ⟨(some 26), none, .ld (some 2) (.t 25)⟩,
                       ⟨(some 7), none, .alloc [(.i .i64 0), (.i .i64 0)]⟩,
                       ⟨none, none, .st 2 (.t 7) (.t 26)⟩])
                     (.reg [
                       ⟨(some 27), none, .mv (.t 3)⟩,
                       ⟨(some 28), none, .ld (some 2) (.t 7)⟩,
                       ⟨none, none, .eqa [1, 1] false (.t 28) (.t 28)⟩,
                       ⟨(some 29), none, .lk [1, 1] (.i .i64 0) false (.t 27) (.t 28)⟩,
                       ⟨(some 30), none, .bin .add (.t 29) (.c (.i .i64 1))⟩,
                       ⟨(some 31), none, .ment [1, 1] (.i .i64 0) (.t 27) (.t 28)⟩,
                       ⟨(some 32), none, .ext (.t 31) 1⟩,
                       ⟨none, none, .est (.t 27) (.t 32) (.t 30)⟩])))
                   (.reg [
                     ⟨(some 33), none, .bin .add (.t 23) (.c (.i .i64 1))⟩,
                     ⟨(some 23), none, .mv (.t 33)⟩])))))))))
           (.reg [
             ⟨(some 34), none, .bin .add (.t 16) (.c (.i .i64 1))⟩,
             ⟨(some 16), none, .mv (.t 34)⟩])))))))
     (.seq
      (.reg [
        ⟨(some 35), none, .mv (.t 3)⟩,
        ⟨(some 2), none, .mv (.t 35)⟩])
      .ret)))))
def topo_counted.r : List Rr := [.tmp 2]
abbrev topo_counted.n : Nat := 36
def topo_reverse.c : C :=
 (.seq
  (.reg [
    ⟨(some 1), none, .box (.t 0)⟩,
    ⟨(some 2), none, .alloc [(.i .i64 0), (.i .i64 0)]⟩])
  (.seq
   (.reg [
     ⟨(some 3), none, .fa 1 (.t 1)⟩,
     ⟨(some 4), none, .ld none (.t 3)⟩,
     ⟨(some 5), none, .fa 0 (.t 1)⟩,
     ⟨(some 6), none, .ld none (.t 5)⟩,
     ⟨(some 7), none, .build [(.i .i64 0), (.i .i64 0)] [(0, 1, (.t 4)), (1, 1, (.t 6))]⟩,
     ⟨none, none, .st 2 (.t 2) (.t 7)⟩])
   .ret))
def topo_reverse.r : List Rr := [.cell 2 (some 2)]
abbrev topo_reverse.n : Nat := 8
def topo_edges.c : C :=
 (.seq
  (.reg [
    ⟨(some 1), none, .box (.t 0)⟩,
    ⟨(some 2), none, .mv (.c .nil)⟩])
  (.seq
   (.reg [
     ⟨(some 3), none, .mv (.c .nil)⟩])
   (.seq
    (.seq
     (.reg [
       ⟨(some 6), none, .fa 0 (.t 1)⟩,
       ⟨(some 7), none, .ld none (.t 6)⟩,
       ⟨(some 8), none, .fa 1 (.t 1)⟩,
       ⟨(some 9), none, .ld none (.t 8)⟩,
       ⟨(some 10), none, .build [(.i .i64 0), (.i .i64 0)] [(0, 1, (.t 7)), (1, 1, (.t 9))]⟩,
       ⟨(some 11), none, .fa 1 (.t 1)⟩,
       ⟨(some 12), none, .ld none (.t 11)⟩,
       ⟨(some 13), none, .fa 2 (.t 1)⟩,
       ⟨(some 14), none, .ld none (.t 13)⟩,
       ⟨(some 15), none, .build [(.i .i64 0), (.i .i64 0)] [(0, 1, (.t 12)), (1, 1, (.t 14))]⟩,
       ⟨(some 16), none, .fa 2 (.t 1)⟩,
       ⟨(some 17), none, .ld none (.t 16)⟩,
       ⟨(some 18), none, .fa 0 (.t 1)⟩,
       ⟨(some 19), none, .ld none (.t 18)⟩,
       ⟨(some 20), none, .build [(.i .i64 0), (.i .i64 0)] [(0, 1, (.t 17)), (1, 1, (.t 19))]⟩,
       ⟨(some 21), none, .build [(.i .i64 0), (.i .i64 0), (.i .i64 0), (.i .i64 0), (.i .i64 0), (.i .i64 0)] [(0, 2, (.t 10)), (2, 2, (.t 15)), (4, 2, (.t 20))]⟩,
       ⟨(some 22), none, .mv (.c (.i .i64 0))⟩])
     (.blk 0
      (.loop
       (.seq
        (.reg [
          ⟨(some 23), none, .bin .lss (.t 22) (.c (.i .i64 3))⟩])
        (.seq
         (.ite (.t 23)
          .skip
          (.exit 0))
         (.seq
          (.blk 1
           (.seq
            (.reg [
              ⟨(some 24), none, .ix 3 2 (some 2) (.t 21) (.t 22)⟩,
              ⟨(some 5), none, .alloc [(.i .i64 0), (.i .i64 0)]⟩,
              ⟨none, none, .st 2 (.t 5) (.t 24)⟩])
            (.seq
             (.reg [
               ⟨(some 25), none, .fa 0 (.t 5)⟩,
               ⟨(some 26), none, .ld none (.t 25)⟩,
               ⟨(some 27), none, .fa 1 (.t 5)⟩,
               ⟨(some 28), none, .ld none (.t 27)⟩,
               ⟨(some 29), none, .bin .neq (.t 26) (.t 28)⟩])
             (.ite (.t 29)
              (.reg [
                ⟨(some 30), none, .mv (.t 3)⟩,
                ⟨(some 31), none, .ld (some 2) (.t 5)⟩,
                ⟨(some 32), none, .bsi 2 1 [(.i .i64 0), (.i .i64 0)] [(0, (.t 31))]⟩,
                ⟨(some 33), none, .app 2 16 (.t 30) (.t 32)⟩,
                ⟨(some 3), none, .mv (.t 33)⟩])
              .skip))))
          (.reg [
            ⟨(some 34), none, .bin .add (.t 22) (.c (.i .i64 1))⟩,
            ⟨(some 22), none, .mv (.t 34)⟩])))))))
    (.seq
     (.reg [
       ⟨(some 35), none, .mv (.t 3)⟩,
       ⟨(some 2), none, .mv (.t 35)⟩])
     .ret))))
def topo_edges.r : List Rr := [.tmp 2]
abbrev topo_edges.n : Nat := 36
def topo_undirected.c : C :=
 (.seq
  (.reg [
    ⟨(some 1), none, .box (.t 0)⟩,
    ⟨(some 2), none, .alloc [(.i .i64 0), (.i .i64 0)]⟩])
  (.seq
   (.reg [
     ⟨(some 3), none, .fa 0 (.t 1)⟩,
     ⟨(some 4), none, .ld none (.t 3)⟩,
     ⟨(some 5), none, .fa 1 (.t 1)⟩,
     ⟨(some 6), none, .ld none (.t 5)⟩,
     ⟨(some 7), none, .mn [(.t 4), (.t 6)]⟩,
     ⟨(some 8), none, .fa 0 (.t 1)⟩,
     ⟨(some 9), none, .ld none (.t 8)⟩,
     ⟨(some 10), none, .fa 1 (.t 1)⟩,
     ⟨(some 11), none, .ld none (.t 10)⟩,
     ⟨(some 12), none, .mx [(.t 9), (.t 11)]⟩,
     ⟨(some 13), none, .build [(.i .i64 0), (.i .i64 0)] [(0, 1, (.t 7)), (1, 1, (.t 12))]⟩,
     ⟨none, none, .st 2 (.t 2) (.t 13)⟩])
   .ret))
def topo_undirected.r : List Rr := [.cell 2 (some 2)]
abbrev topo_undirected.n : Nat := 14
def topo_order.c (cmp_Compare_int cmp_Or_int : FuncId) : C :=
 (.seq
  (.reg [
    ⟨(some 2), none, .box (.t 0)⟩,
    ⟨(some 3), none, .box (.t 1)⟩,
    ⟨(some 4), none, .mv (.c (.i .i64 0))⟩])
  (.seq
   (.drw [
     ⟨(some 5), none, .fa 0 (.t 2)⟩,
     ⟨(some 6), none, .ld none (.t 5)⟩,
     ⟨(some 7), none, .fa 0 (.t 3)⟩,
     ⟨(some 8), none, .ld none (.t 7)⟩,
     ⟨(some 9), none, .call cmp_Compare_int [(.t 6), (.t 8)]⟩,
     ⟨(some 10), none, .fa 1 (.t 2)⟩,
     ⟨(some 11), none, .ld none (.t 10)⟩,
     ⟨(some 12), none, .fa 1 (.t 3)⟩,
     ⟨(some 13), none, .ld none (.t 12)⟩,
     ⟨(some 14), none, .call cmp_Compare_int [(.t 11), (.t 13)]⟩,
     ⟨(some 15), none, .bsi 1 2 [(.i .i64 0)] [(0, (.t 9)), (1, (.t 14))]⟩,
     ⟨(some 16), none, .call cmp_Or_int [(.t 15)]⟩,
     ⟨(some 4), none, .mv (.t 16)⟩] [[], [], [], [], [], [4], [4], [4], [4], [], [], [], []])
   .ret))
def topo_order.r : List Rr := [.tmp 4]
abbrev topo_order.n : Nat := 17
def topo_Boundary.c (topo_counted topo_reverse slices_SortFunc_api_Edge_api_Edge topo_order : FuncId) : C :=
 (.seq
  (.reg [
    ⟨(some 1), none, .box (.t 0)⟩,
    ⟨(some 2), none, .mv (.c .nil)⟩])
  (.seq
   (.reg [
     ⟨(some 7), none, .ld (some 2) (.t 1)⟩,
     ⟨(some 8), none, .call topo_counted [(.t 7)]⟩,
     ⟨(some 3), none, .mv (.t 8)⟩])
   (.seq
    (.reg [
      ⟨(some 4), none, .mv (.c .nil)⟩])
    (.seq
     (.seq
      (.reg [
        ⟨(some 9), none, .mv (.t 3)⟩,
        ⟨(some 10), none, .mrng (.t 9)⟩])
      (.blk 0
       (.loop
        (.seq
         (.reg [
           ⟨(some 11), none, .mnx (.t 10)⟩,
           ⟨(some 12), none, .ext (.t 11) 0⟩])
         (.seq
          (.ite (.t 12)
           .skip
           (.exit 0))
          (.blk 1
           (.seq
            (.reg [
              ⟨(some 13), none, .men (.t 10)⟩,
              ⟨(some 14), none, .ext (.t 13) 0⟩,
              ⟨(some 15), none, .ext (.t 13) 1⟩,
              ⟨(some 5), none, .alloc [(.i .i64 0), (.i .i64 0)]⟩,
              ⟨none, none, .st 2 (.t 5) (.t 14)⟩,
              ⟨(some 6), none, .mv (.t 15)⟩])
            (.seq
             (.reg [
               ⟨(some 16), none, .mv (.t 6)⟩,
               ⟨(some 17), none, .mv (.t 3)⟩,
               ⟨(some 18), none, .ld (some 2) (.t 5)⟩,
               ⟨(some 19), none, .call topo_reverse [(.t 18)]⟩,
               ⟨(some 20), none, .lk [1, 1] (.i .i64 0) false (.t 17) (.t 19)⟩,
               ⟨(some 21), none, .bin .gtr (.t 16) (.t 20)⟩])
             (.ite (.t 21)
              (.reg [
                ⟨(some 22), none, .mv (.t 4)⟩,
                ⟨(some 23), none, .ld (some 2) (.t 5)⟩,
                ⟨(some 24), none, .bsi 2 1 [(.i .i64 0), (.i .i64 0)] [(0, (.t 23))]⟩,
                ⟨(some 25), none, .app 2 16 (.t 22) (.t 24)⟩,
                ⟨(some 4), none, .mv (.t 25)⟩])
              .skip)))))))))
     (.seq
      (.reg [
        ⟨(some 26), none, .mv (.t 4)⟩,
        ⟨(some 27), none, .call slices_SortFunc_api_Edge_api_Edge [(.t 26), (.c (.f topo_order []))]⟩])
      (.seq
       (.reg [
         ⟨(some 28), none, .mv (.t 4)⟩,
         ⟨(some 2), none, .mv (.t 28)⟩])
       .ret))))))
def topo_Boundary.r : List Rr := [.tmp 2]
abbrev topo_Boundary.n : Nat := 29
def topo_Closed.c (mesh_Check topo_Boundary : FuncId) : C :=
 (.seq
  (.reg [
    ⟨(some 1), none, .box (.t 0)⟩,
    ⟨(some 2), none, .mv (.c (.b false))⟩])
  (.seq
   (.reg [
     ⟨(some 3), none, .ld (some 2) (.t 1)⟩,
     ⟨(some 4), none, .call mesh_Check [(.t 3)]⟩,
     ⟨(some 5), none, .bin .eql (.t 4) (.c (.i .i64 0))⟩,
     ⟨(some 6), none, .mv (.t 5)⟩,
     ⟨(some 7), (some (6, true)), .ld (some 2) (.t 1)⟩,
     ⟨(some 8), (some (6, true)), .call topo_Boundary [(.t 7)]⟩,
     ⟨(some 9), (some (6, true)), .len 0 (.t 8)⟩,
     ⟨(some 10), (some (6, true)), .bin .eql (.t 9) (.c (.i .i64 0))⟩,
     ⟨(some 11), none, .pick (.t 6) (.t 10) (.c (.b false))⟩,
     ⟨(some 2), none, .mv (.t 11)⟩])
   .ret))
def topo_Closed.r : List Rr := [.tmp 2]
abbrev topo_Closed.n : Nat := 12
def topo_Uses.c (topo_counted topo_reverse : FuncId) : C :=
 (.seq
  (.reg [
    ⟨(some 2), none, .box (.t 0)⟩,
    ⟨(some 3), none, .box (.t 1)⟩,
    ⟨(some 4), none, .mv (.c (.i .i64 0))⟩,
    ⟨(some 5), none, .mv (.c (.i .i64 0))⟩])
  (.seq
   (.reg [
     ⟨(some 7), none, .ld (some 2) (.t 2)⟩,
     ⟨(some 8), none, .call topo_counted [(.t 7)]⟩,
     ⟨(some 6), none, .mv (.t 8)⟩])
   (.seq
    (.drw [
      ⟨(some 9), none, .mv (.t 6)⟩,
      ⟨(some 10), none, .ld (some 2) (.t 3)⟩,
      ⟨(some 11), none, .lk [1, 1] (.i .i64 0) false (.t 9) (.t 10)⟩,
      ⟨(some 12), none, .mv (.t 6)⟩,
      ⟨(some 13), none, .ld (some 2) (.t 3)⟩,
      ⟨(some 14), none, .call topo_reverse [(.t 13)]⟩,
      ⟨(some 15), none, .lk [1, 1] (.i .i64 0) false (.t 12) (.t 14)⟩,
      ⟨(some 4), none, .mv (.t 11)⟩,
      ⟨(some 5), none, .mv (.t 15)⟩] [[], [], [], [], [], [1, 2], [], [], []])
    .ret)))
def topo_Uses.r : List Rr := [.tmp 4, .tmp 5]
abbrev topo_Uses.n : Nat := 16
def topo_Shells.c (mesh_Check topo_edges topo_undirected slices_Sort_int_int : FuncId) : C :=
 (.seq
  (.reg [
    ⟨(some 1), none, .box (.t 0)⟩,
    ⟨(some 2), none, .mv (.c .nil)⟩])
  (.seq
   (.seq
    (.reg [
      ⟨(some 17), none, .ld (some 2) (.t 1)⟩,
      ⟨(some 18), none, .call mesh_Check [(.t 17)]⟩,
      ⟨(some 19), none, .bin .neq (.t 18) (.c (.i .i64 0))⟩])
    (.ite (.t 19)
     (.seq
      (.reg [
        ⟨(some 2), none, .mv (.c .nil)⟩])
      .ret)
     .skip))
   (.seq
    (.reg [
      ⟨(some 20), none, .mkm none⟩,
      ⟨(some 3), none, .mv (.t 20)⟩])
    (.seq
     (.seq
      (.reg [
        ⟨(some 21), none, .fa 1 (.t 1)⟩,
        ⟨(some 22), none, .ld none (.t 21)⟩,
        ⟨(some 23), none, .len 0 (.t 22)⟩,
        ⟨(some 24), none, .mv (.c (.i .i64 0))⟩])
      (.blk 0
       (.loop
        (.seq
         (.reg [
           ⟨(some 25), none, .bin .lss (.t 24) (.t 23)⟩])
         (.seq
          (.ite (.t 25)
           .skip
           (.exit 0))
          (.seq
           (.blk 1
            (.seq
             (.reg [
               ⟨(some 26), none, .mv (.t 24)⟩,
               ⟨(some 27), none, .ia 3 (.t 22) (.t 24)⟩,
               ⟨(some 28), none, .ld (some 3) (.t 27)⟩,
               ⟨(some 5), none, .alloc [(.i .i64 0), (.i .i64 0), (.i .i64 0)]⟩,
               ⟨(some 4), none, .mv (.t 26)⟩,
               ⟨none, none, .st 3 (.t 5) (.t 28)⟩])
             (.seq
              (.reg [
                ⟨(some 29), none, .ld (some 3) (.t 5)⟩,
                ⟨(some 30), none, .call topo_edges [(.t 29)]⟩,
                ⟨(some 31), none, .len 0 (.t 30)⟩,
                ⟨(some 32), none, .mv (.c (.i .i64 0))⟩])
              (.blk 2
               (.loop
                (.seq
                 (.reg [
                   ⟨(some 33), none, .bin .lss (.t 32) (.t 31)⟩])
                 (.seq
                  (.ite (.t 33)
                   .skip
                   (.exit 2))
                  (.seq
                   (.blk 3
                    (.seq
                     (.reg [
                       ⟨(some 34), none, .ia 2 (.t 30) (.t 32)⟩,
                       ⟨(some 35), none, .ld (some 2) (.t 34)⟩,
                       ⟨(some 7), none, .alloc [(.i .i64 0), (.i .i64 0)]⟩,
                       ⟨none, none, .st 2 (.t 7) (.t 35)⟩])
                     (.drw [
                       ⟨(some 36), none, .mv (.t 3)⟩,
                       ⟨(some 37), none, .ld (some 2) (.t 7)⟩,
                       ⟨(some 38), none, .call topo_undirected [(.t 37)]⟩,
                       ⟨(some 39), none, .mv (.t 3)⟩,
                       ⟨(some 40), none, .ld (some 2) (.t 7)⟩,
                       ⟨(some 41), none, .call topo_undirected [(.t 40)]⟩,
                       ⟨(some 42), none, .lk [1, 1] .nil false (.t 39) (.t 41)⟩,
                       ⟨(some 43), none, .mv (.t 4)⟩,
                       ⟨(some 44), none, .bsi 1 1 [(.i .i64 0)] [(0, (.t 43))]⟩,
                       ⟨(some 45), none, .app 1 8 (.t 42) (.t 44)⟩,
                       ⟨none, none, .mup [1, 1] (.t 36) (.t 38) (.t 45)⟩] [[], [], [], [], [2], [], [], [], [], [], []])))
                   (.reg [
                     ⟨(some 46), none, .bin .add (.t 32) (.c (.i .i64 1))⟩,
                     ⟨(some 32), none, .mv (.t 46)⟩])))))))))
           (.reg [
             ⟨(some 47), none, .bin .add (.t 24) (.c (.i .i64 1))⟩,
             ⟨(some 24), none, .mv (.t 47)⟩])))))))
     (.seq
      (.reg [
        ⟨(some 8), none, .mv (.c .nil)⟩])
      (.seq
       (.reg [
         ⟨(some 48), none, .fa 1 (.t 1)⟩,
         ⟨(some 49), none, .ld none (.t 48)⟩,
         ⟨(some 50), none, .len 0 (.t 49)⟩,
         ⟨(some 51), none, .mks 1 1 [(.b false)] (.t 50)⟩,
         ⟨(some 9), none, .mv (.t 51)⟩])
       (.seq
        (.seq
         (.reg [
           ⟨(some 52), none, .fa 1 (.t 1)⟩,
           ⟨(some 53), none, .ld none (.t 52)⟩,
           ⟨(some 54), none, .len 0 (.t 53)⟩,
           ⟨(some 55), none, .mv (.c (.i .i64 0))⟩])
         (.blk 4
          (.loop
           (.seq
            (.reg [
              ⟨(some 56), none, .bin .lss (.t 55) (.t 54)⟩])
            (.seq
             (.ite (.t 56)
              .skip
              (.exit 4))
             (.seq
              (.blk 5
               (.seq
                (.reg [
                  ⟨(some 57), none, .mv (.t 55)⟩,
                  ⟨(some 10), none, .mv (.t 57)⟩])
                (.seq
                 (.seq
                  (.reg [
                    ⟨(some 58), none, .mv (.t 9)⟩,
                    ⟨(some 59), none, .mv (.t 10)⟩,
                    ⟨(some 60), none, .ia 1 (.t 58) (.t 59)⟩,
                    ⟨(some 61), none, .ld none (.t 60)⟩])
                  (.ite (.t 61)
                   (.exit 5)
                   .skip))
                 (.seq
                  (.reg [
                    ⟨(some 62), none, .mv (.t 9)⟩,
                    ⟨(some 63), none, .mv (.t 10)⟩,
                    ⟨(some 64), none, .ia 1 (.t 62) (.t 63)⟩,
                    ⟨none, none, .st 1 (.t 64) (.c (.b true))⟩])
                  (.seq
                   (.reg [
                     ⟨(some 65), none, .mv (.t 10)⟩,
                     ⟨(some 66), none, .bso 1 1 [(.i .i64 0)] [(0, (.t 65))]⟩,
                     ⟨(some 11), none, .mv (.t 66)⟩])
                   (.seq
                    (.seq
                     (.reg [
                       ⟨(some 12), none, .mv (.c (.i .i64 0))⟩])
                     (.blk 6
                      (.loop
                       (.seq
                        (.seq
                         (.reg [
                           ⟨(some 67), none, .mv (.t 12)⟩,
                           ⟨(some 68), none, .mv (.t 11)⟩,
                           ⟨(some 69), none, .len 0 (.t 68)⟩,
                           ⟨(some 70), none, .bin .lss (.t 67) (.t 69)⟩])
                         (.ite (.t 70)
                          .skip
                          (.exit 6)))
                        (.seq
                         (.blk 7
                          (.seq
                           (.drw [
                             ⟨(some 73), none, .fa 1 (.t 1)⟩,
                             ⟨(some 74), none, .ld none (.t 73)⟩,
                             ⟨(some 75), none, .mv (.t 11)⟩,
                             ⟨(some 76), none, .mv (.t 12)⟩,
                             ⟨(some 77), none, .ia 1 (.t 75) (.t 76)⟩,
                             ⟨(some 78), none, .ld none (.t 77)⟩,
                             ⟨(some 79), none, .ia 3 (.t 74) (.t 78)⟩,
                             ⟨(some 80), none, .ld (some 3) (.t 79)⟩,
                             ⟨(some 81), none, .call topo_edges [(.t 80)]⟩,
                             ⟨(some 82), none, .len 0 (.t 81)⟩,
                             ⟨(some 83), none, .mv (.c (.i .i64 0))⟩] [])
                           (.blk 8
                            (.loop
                             (.seq
                              (.reg [
                                ⟨(some 84), none, .bin .lss (.t 83) (.t 82)⟩])
                              (.seq
                               (.ite (.t 84)
                                .skip
                                (.exit 8))
                               (.seq
                                (.blk 9
                                 (.seq
                                  (.reg [
                                    ⟨(some 85), none, .ia 2 (.t 81) (.t 83)⟩,
                                    ⟨(some 86), none, .ld (some 2) (.t 85)⟩,
                                    ⟨(some 14), none, .alloc [(.i .i64 0), (.i .i64 0)]⟩,
                                    ⟨none, none, .st 2 (.t 14) (.t 86)⟩])
                                  (.seq
                                   (.reg [
                                     ⟨(some 87), none, .mv (.t 3)⟩,
                                     ⟨(some 88), none, .ld (some 2) (.t 14)⟩,
                                     ⟨(some 89), none, .call topo_undirected [(.t 88)]⟩,
                                     ⟨(some 90), none, .lk [1, 1] .nil false (.t 87) (.t 89)⟩,
                                     ⟨(some 91), none, .len 0 (.t 90)⟩,
                                     ⟨(some 92), none, .mv (.c (.i .i64 0))⟩])
                                   (.blk 10
                                    (.loop
                                     (.seq
                                      (.reg [
                                        ⟨(some 93), none, .bin .lss (.t 92) (.t 91)⟩])
                                      (.seq
                                       (.ite (.t 93)
                                        .skip
                                        (.exit 10))
                                       (.seq
                                        (.blk 11
                                         (.seq
                                          (.reg [
                                            ⟨(some 94), none, .ia 1 (.t 90) (.t 92)⟩,
                                            ⟨(some 95), none, .ld none (.t 94)⟩,
                                            ⟨(some 16), none, .mv (.t 95)⟩])
                                          (.seq
                                           (.reg [
                                             ⟨(some 96), none, .mv (.t 9)⟩,
                                             ⟨(some 97), none, .mv (.t 16)⟩,
                                             ⟨(some 98), none, .ia 1 (.t 96) (.t 97)⟩,
                                             ⟨(some 99), none, .ld none (.t 98)⟩,
                                             ⟨(some 100), none, .un .not (.t 99)⟩])
                                           (.ite (.t 100)
                                            (.seq
                                             (.reg [
                                               ⟨(some 101), none, .mv (.t 9)⟩,
                                               ⟨(some 102), none, .mv (.t 16)⟩,
                                               ⟨(some 103), none, .ia 1 (.t 101) (.t 102)⟩,
                                               ⟨none, none, .st 1 (.t 103) (.c (.b true))⟩])
                                             (.reg [
                                               ⟨(some 104), none, .mv (.t 11)⟩,
                                               ⟨(some 105), none, .mv (.t 16)⟩,
                                               ⟨(some 106), none, .bsi 1 1 [(.i .i64 0)] [(0, (.t 105))]⟩,
                                               ⟨(some 107), none, .app 1 8 (.t 104) (.t 106)⟩,
                                               ⟨(some 11), none, .mv (.t 107)⟩]))
                                            .skip))))
                                        (.reg [
                                          ⟨(some 108), none, .bin .add (.t 92) (.c (.i .i64 1))⟩,
                                          ⟨(some 92), none, .mv (.t 108)⟩])))))))))
                                (.reg [
                                  ⟨(some 109), none, .bin .add (.t 83) (.c (.i .i64 1))⟩,
                                  ⟨(some 83), none, .mv (.t 109)⟩]))))))))
                         (.reg [
                           ⟨(some 71), none, .mv (.t 12)⟩,
                           ⟨(some 72), none, .bin .add (.t 71) (.c (.i .i64 1))⟩,
                           ⟨(some 12), none, .mv (.t 72)⟩]))))))
                    (.seq
                     (.reg [
                       ⟨(some 110), none, .mv (.t 11)⟩,
                       ⟨(some 111), none, .call slices_Sort_int_int [(.t 110)]⟩])
                     (.reg [
                       ⟨(some 112), none, .mv (.t 8)⟩,
                       ⟨(some 113), none, .mv (.t 11)⟩,
                       ⟨(some 114), none, .bso 1 1 [.nil] [(0, (.t 113))]⟩,
                       ⟨(some 115), none, .app 1 24 (.t 112) (.t 114)⟩,
                       ⟨(some 8), none, .mv (.t 115)⟩]))))))))
              (.reg [
                ⟨(some 116), none, .bin .add (.t 55) (.c (.i .i64 1))⟩,
                ⟨(some 55), none, .mv (.t 116)⟩])))))))
        (.seq
         (.reg [
           ⟨(some 117), none, .mv (.t 8)⟩,
           ⟨(some 2), none, .mv (.t 117)⟩])
         .ret))))))))
def topo_Shells.r : List Rr := [.tmp 2]
abbrev topo_Shells.n : Nat := 118

end Go.Abs

set_option linter.unusedVariables false
set_option linter.unusedSimpArgs false
namespace Go.Abs
open Go.Sort Go.Proofs

instance : Inhabited P2 := ⟨⟨0, 0⟩⟩
def P2.rev (e : P2) : P2 := ⟨e.y, e.x⟩
def P2.und (e : P2) : P2 := ⟨min e.x e.y, max e.x e.y⟩
def P2.ints (e : P2) : List Int := [e.x, e.y]
def tallyM (m : Mesh) : List (P2 × Int) := if m.check = 0 then tally (alluses m.tris) else []
def CountedC (P : Program) (f : FuncId) : Prop := ∀ m : Mesh, NewC P f [m.enc] (fun r h => r = .mp 1 ∧ h = [.dead, .mp ((tallyM m).map asV)])
def RevC (P : Program) (f : FuncId) : Prop := ∀ e : P2, CallIs P f [e.enc] e.rev.enc
def UndC (P : Program) (f : FuncId) : Prop := ∀ e : P2, CallIs P f [e.enc] e.und.enc
def OrC (P : Program) (f : FuncId) : Prop := ∀ x y : Int, CallIs P f [.l 1 [[.i .i64 x], [.i .i64 y]]] (.i .i64 (if x ≠ 0 then x else y))
def cmpE (a b : P2) : Int := if cmpI a.x b.x ≠ 0 then cmpI a.x b.x else cmpI a.y b.y
def OrderC (P : Program) (f : FuncId) : Prop := ∀ a b : P2, CallIs P f [a.enc, b.enc] (.i .i64 (cmpE a b))

theorem ltE (a b : P2) : ltOf cmpE a b = decide (P2.lt a b) := by
  unfold ltOf cmpE cmpI P2.lt
  by_cases h1 : a.x < b.x
  · simp [h1]
  · by_cases h2 : b.x < a.x
    · simp [h1, h2]; omega
    · have h3 : a.x = b.x := by omega
      by_cases h4 : a.y < b.y
      · simp [h3, h4]
      · by_cases h5 : b.y < a.y <;> simp [h3, h4, h5]
theorem swoE : SWO (ltOf cmpE) where
  irrefl x := by rw [ltE]; simp [P2.lt]
  trans x y z h1 h2 := by
    rw [ltE, decide_eq_true_eq] at *
    exact P2.lt_trans h1 h2
  ntrans x y z h1 h2 := by
    rw [ltE, decide_eq_false_iff_not] at *
    unfold P2.lt at *; omega

section
variable {P : Program} (hm : P.follows .mixedOrders = true)
include hm

theorem topo_edges_ok {f : FuncId} (hf : FnOk P f topo_edges.c topo_edges.r topo_edges.n) : EdgesC P f := orient_edges_ok hm hf
theorem topo_reverse_ok {f : FuncId} (hf : FnOk P f topo_reverse.c topo_reverse.r topo_reverse.n) : RevC P f := by
  intro e
  refine PureC.is (pure_of hm hf (Nat.le_of_ble_eq_true rfl) ?_) rfl
  unfold topo_reverse.c
  simp [go_sem, P2.enc, P2.cs, topo_reverse.r, P2.rev]
theorem topo_undirected_ok {f : FuncId} (hf : FnOk P f topo_undirected.c topo_undirected.r topo_undirected.n) : UndC P f := by
  intro e
  refine PureC.is (pure_of hm hf (Nat.le_of_ble_eq_true rfl) ?_) rfl
  unfold topo_undirected.c
  simp [go_sem, P2.enc, P2.cs, topo_undirected.r, P2.und, min_if, max_if]
theorem Or_ok {f : FuncId} (hf : FnOk P f cmp_Or_int.c cmp_Or_int.r cmp_Or_int.n) : OrC P f := by
  intro x y
  refine PureC.is (pure_of hm hf (Nat.le_of_ble_eq_true rfl) ?_) rfl
  unfold cmp_Or_int.c
  simp [go_sem]
  refine AS_loop (α := Nat) (fun k => k ≤ 2 ∧ (1 ≤ k → x = 0) ∧ (2 ≤ k → y = 0))
    (fun k => ⟨[(3, .i .i64 0), (6, .l 1 [[.i .i64 x], [.i .i64 y]]), (7, .i .i64 2), (8, .i .i64 k)], []⟩)
    (fun k => 2 - k) 0 ⟨by omega, by omega, by omega⟩ ?_ ?_
  · simp [go_sem]
  · rintro k ⟨hk, h1, h2⟩
    have w1 : IntKind.i64.wrap 1 = 1 := rfl
    have w2 : IntKind.i64.wrap 2 = 2 := rfl
    have : k = 0 ∨ k = 1 ∨ k = 2 := by omega
    rcases this with rfl | rfl | rfl
    · by_cases hx : x = 0
      · simp [go_sem, hx, w1]
        exact ⟨1, ⟨by omega, fun h => by omega⟩, by omega, rfl⟩
      · simp [go_sem, hx, cmp_Or_int.r]
    · have hx := h1 (by omega)
      by_cases hy : y = 0
      · simp [go_sem, hx, hy, w2]
        exact ⟨2, by omega, by omega, rfl⟩
      · simp [go_sem, hx, hy, cmp_Or_int.r]
    · have hx := h1 (by omega)
      have hy := h2 (by omega)
      simp [go_sem, hx, hy, cmp_Or_int.r]
theorem topo_order_ok {f fc fo : FuncId} (hf : FnOk P f (topo_order.c fc fo) topo_order.r topo_order.n) (hc : CmpC P fc) (ho : OrC P fo) : OrderC P f := by
  intro a b
  refine PureC.is (pure_of hm hf (Nat.le_of_ble_eq_true rfl) ?_) rfl
  unfold topo_order.c
  simp [go_sem, P2.enc, P2.cs]
  refine DCall_is (hc a.x b.x) ?_
  simp [go_sem]
  refine DCall_is (hc a.y b.y) ?_
  simp [go_sem]
  refine DCall_is (ho _ _) ?_
  simp [go_sem, topo_order.r, cmpE]

set_option maxHeartbeats 4000000 in
theorem topo_counted_ok {f fc fe : FuncId} (hf : FnOk P f (topo_counted.c fc fe) topo_counted.r topo_counted.n) (hc : CheckC P fc) (he : EdgesC P fe) : CountedC P f := by
  intro m
  refine new_of hm hf (Nat.le_of_ble_eq_true rfl) ?_
  unfold topo_counted.c
  simp [go_sem, Mesh.enc, Mesh.cs]
  refine ACall_is (hc m) ?_
  by_cases hz : m.check = 0
  case neg =>
    have hT : tallyM m = [] := by simp [tallyM, hz]
    simp [go_sem, hz, topo_counted.r, hT]
  have hl := (Mesh.check_zero.1 hz).2.1
  simp [go_sem, hz, tsV]
  refine AS_loop (α := Nat) (fun k => k ≤ m.tris.length)
    (fun k => ⟨[(3, .mp 1), (14, tsV m.tris), (15, .i .i64 m.tris.length), (16, .i .i64 k)], [.dead, .mp ((tally (alluses (m.tris.take k))).map asV)]⟩)
    (fun k => m.tris.length - k) 0 (by omega) ?_ ?_
  · simp [go_sem, tsV, alluses, tally]
  · intro k hk
    by_cases hkl : k = m.tris.length
    · subst hkl
      rw [List.take_length]
      have hT : tallyM m = tally (alluses m.tris) := by simp [tallyM, hz]
      simp [go_sem, tsV, topo_counted.r, hT]
      exact asV_cl _ 2
    · have hlt : k < m.tris.length := by omega
      have hp : m.tris[k]? = some m.tris[k] := List.getElem?_eq_getElem hlt
      generalize m.tris[k] = t at hp
      obtain ⟨_, hp'⟩ := List.getElem?_eq_some_iff.1 hp
      simp [go_sem, tsV, hlt, hp', tcs]
      refine ACall_is (he t) ?_
      have hlen : (edgesOf t).length ≤ 3 := edgesK_le t 3
      have hE := alluses_len m.tris k
      generalize hA : alluses (m.tris.take k) = A0
      simp [go_sem, psV]
      refine AS_loop (α := Nat) (fun j => j ≤ (edgesOf t).length)
        (fun j => ⟨[(3, .mp 1), (14, tsV m.tris), (15, .i .i64 m.tris.length), (16, .i .i64 k), (21, psV (edgesOf t)), (22, .i .i64 (edgesOf t).length), (23, .i .i64 j)], [.dead, .mp ((tally (A0 ++ (edgesOf t).take j)).map asV)]⟩)
        (fun j => (edgesOf t).length - j) 0 (by omega) ?_ ?_
      · simp [go_sem, tsV, psV]
        exact asV_cl _ 2
      · intro j hj
        by_cases hjl : j = (edgesOf t).length
        · subst hjl
          simp (disch := omega) [go_sem, tsV, psV, wrap64_small]
          exact ⟨k + 1, by omega, by omega, by omega, by rw [alluses_succ hp, hA], asV_cl _ 2⟩
        · have hjlt : j < (edgesOf t).length := by omega
          have hq : (edgesOf t)[j]? = some (edgesOf t)[j] := List.getElem?_eq_getElem hjlt
          have htk : (edgesOf t).take (j + 1) = (edgesOf t).take j ++ [(edgesOf t)[j]] := by rw [List.take_add_one, hq]; rfl
          generalize (edgesOf t)[j] = e at hq htk
          obtain ⟨_, hq'⟩ := List.getElem?_eq_some_iff.1 hq
          have hS1 : A0 ++ (edgesOf t).take (j + 1) = (A0 ++ (edgesOf t).take j) ++ [e] := by rw [htk, ← List.append_assoc]
          generalize hS : A0 ++ (edgesOf t).take j = S at hS1
          have hT1 := tally_snoc S e
          rw [← hS1] at hT1
          generalize hL : tally S = L at hT1
          have h1 := findE_asV e L
          unfold addE at hT1
          cases hfn : fnd e L with
          | some p =>
            obtain ⟨i, n⟩ := p
            rw [hfn] at h1 hT1
            simp only [Option.map_some] at h1
            simp only at hT1
            have hn : n = S.count e := by
              have := val_tally S e
              rw [hL, val, hfn] at this
              exact this
            have hcl : S.count e ≤ S.length := List.count_le_length
            have hSl : S.length ≤ 3 * 4096 := by
              rw [← hS, ← hA, List.length_append, List.length_take]; omega
            have h3 : fnd e (L.set i (e, n + 1)) = some (i, n + 1) := (fnd_set (n' := n + 1) hfn).2
            have hil : i < L.length := (List.getElem?_eq_some_iff.1 (fnd_set (n' := n + 1) hfn).1).1
            have hil' : i < (List.map asV L).length := by simpa using hil
            have wn : IntKind.i64.wrap (n + 1) = n + 1 := wrap64_small (by omega) (by omega)
            simp [go_sem, psV, hjlt, hq', pcs, h1, wn, List.getElem?_set_self hil', List.set_set]
            refine ⟨j + 1, by omega, by omega, ⟨.inr rfl, wrap64_small (by omega) (by omega)⟩, ?_, asV_cl _ 2⟩
            rw [hT1, List.map_set]; rfl
          | none =>
            rw [hfn] at h1 hT1
            simp only [Option.map_none] at h1
            have w1 : IntKind.i64.wrap 1 = 1 := rfl
            simp only at hT1
            simp [go_sem, psV, hjlt, hq', pcs, h1, w1]
            refine ⟨j + 1, by omega, by omega, ⟨.inr rfl, wrap64_small (by omega) (by omega)⟩, ?_, asV_cl _ 2⟩
            rw [hT1, List.map_append]; rfl
end
end Go.Abs

