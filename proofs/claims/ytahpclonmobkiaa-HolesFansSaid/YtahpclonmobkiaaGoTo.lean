/- The code of functions of the program, the functions that they call left open. -/
import Derived.Test.YtahpclonmobkiaaGoOriB
set_option linter.unusedVariables false
set_option linter.unusedSimpArgs false
namespace Go.Abs

def topo_counted.c (mesh_Check topo_edges : FuncId) : C :=
 (.seq
  (.reg [
    ⟨(some 1), none, .box (.t 0)⟩,
    ⟨(some 2), none, .mv (.c .mnil)⟩])
  (.seq
   (.reg [
     ⟨(some 8), none, .mkm none⟩,
     ⟨(some 3), none, .mv (.t 8)⟩])
   (.seq
    (.seq
     (.reg [
       ⟨(some 9), none, .ld (some 2) (.t 1)⟩,
       ⟨(some 10), none, .call mesh_Check [(.t 9)]⟩,
       ⟨(some 11), none, .bin .neq (.t 10) (.c (.i .i64 0))⟩])
     (.ite (.t 11)
      (.seq
       (.reg [
         ⟨(some 12), none, .mv (.t 3)⟩,
         ⟨(some 2), none, .mv (.t 12)⟩])
       .ret)
      .skip))
    (.seq
     (.seq
      (.reg [
        ⟨(some 13), none, .fa 1 (.t 1)⟩,
        ⟨(some 14), none, .ld none (.t 13)⟩,
        ⟨(some 15), none, .len 0 (.t 14)⟩,
        ⟨(some 16), none, .mv (.c (.i .i64 0))⟩])
      (.blk 0
       (.loop
        (.seq
         (.reg [
           ⟨(some 17), none, .bin .lss (.t 16) (.t 15)⟩])
         (.seq
          (.ite (.t 17)
           .skip
           (.exit 0))
          (.seq
           (.blk 1
            (.seq
             (.reg [
               ⟨(some 18), none, .ia 3 (.t 14) (.t 16)⟩,
               ⟨(some 19), none, .ld (some 3) (.t 18)⟩,
               ⟨(some 5), none, .alloc [(.i .i64 0), (.i .i64 0), (.i .i64 0)]⟩,
               ⟨none, none, .st 3 (.t 5) (.t 19)⟩])
             (.seq
              (.reg [
                ⟨(some 20), none, .ld (some 3) (.t 5)⟩,
                ⟨(some 21), none, .call topo_edges [(.t 20)]⟩,
                ⟨(some 22), none, .len 0 (.t 21)⟩,
                ⟨(some 23), none, .mv (.c (.i .i64 0))⟩])
              (.blk 2
               (.loop
                (.seq
                 (.reg [
                   ⟨(some 24), none, .bin .lss (.t 23) (.t 22)⟩])
                 (.seq
                  (.ite (.t 24)
                   .skip
                   (.exit 2))
                  (.seq
                   (.blk 3
                    (.seq
                     (.reg [
                       ⟨(some 25), none, .ia 2 (.t 21) (.t 23)⟩,
                       ⟨(some 26), none, .ld (some 2) (.t 25)⟩,
                       ⟨(some 7), none, .alloc [(.i .i64 0), (.i .i64 0)]⟩,
                       ⟨none, none, .st 2 (.t 7) (.t 26)⟩])
                     (.reg [
                       ⟨(some 27), none, .mv (.t 3)⟩,
                       ⟨(some 28), none, .ld (some 2) (.t 7)⟩,
                       ⟨none, none, .eqa [1, 1] false (.t 28) (.t 28)⟩,
                       ⟨(some 29), none, .lk [1, 1] (.i .i64 0) false (.t 27) (.t 28)⟩,
                       ⟨(some 30), none, .bin .add (.t 29) (.c (.i .i64 1))⟩,
                       ⟨(some 31), none, .ment [1, 1] (.i .i64 0) (.t 27) (.t 28)⟩,
                       ⟨(some 32), none, .ext (.t 31) 1⟩,
                       ⟨none, none, .est (.t 27) (.t 32) (.t 30)⟩])))
                   (.reg [
                     ⟨(some 33), none, .bin .add (.t 23) (.c (.i .i64 1))⟩,
                     ⟨(some 23), none, .mv (.t 33)⟩])))))))))
           (.reg [
             ⟨(some 34), none, .bin .add (.t 16) (.c (.i .i64 1))⟩,
             ⟨(some 16), none, .mv (.t 34)⟩])))))))
     (.seq
      (.reg [
        ⟨(some 35), none, .mv (.t 3)⟩,
        ⟨(some 2), none, .mv (.t 35)⟩])
      .ret)))))
def topo_counted.r : List Rr := [.tmp 2]
abbrev topo_counted.n : Nat := 36
def topo_reverse.c : C :=
 (.seq
  (.reg [
    ⟨(some 1), none, .box (.t 0)⟩,
    ⟨(some 2), none, .alloc [(.i .i64 0), (.i .i64 0)]⟩])
  (.seq
   (.reg [
     ⟨(some 3), none, .fa 1 (.t 1)⟩,
     ⟨(some 4), none, .ld none (.t 3)⟩,
     ⟨(some 5), none, .fa 0 (.t 1)⟩,
     ⟨(some 6), none, .ld none (.t 5)⟩,
     ⟨(some 7), none, .build [(.i .i64 0), (.i .i64 0)] [(0, 1, (.t 4)), (1, 1, (.t 6))]⟩,
     ⟨none, none, .st 2 (.t 2) (.t 7)⟩])
   .ret))
def topo_reverse.r : List Rr := [.cell 2 (some 2)]
abbrev topo_reverse.n : Nat := 8
def topo_edges.c : C :=
 (.seq
  (.reg [
    ⟨(some 1), none, .box (.t 0)⟩,
    ⟨(some 2), none, .mv (.c .nil)⟩])
  (.seq
   (.reg [
     ⟨(some 3), none, .mv (.c .nil)⟩])
   (.seq
    (.seq
     (.reg [
       ⟨(some 6), none, .fa 0 (.t 1)⟩,
       ⟨(some 7), none, .ld none (.t 6)⟩,
       ⟨(some 8), none, .fa 1 (.t 1)⟩,
       ⟨(some 9), none, .ld none (.t 8)⟩,
       ⟨(some 10), none, .build [(.i .i64 0), (.i .i64 0)] [(0, 1, (.t 7)), (1, 1, (.t 9))]⟩,
       ⟨(some 11), none, .fa 1 (.t 1)⟩,
       ⟨(some 12), none, .ld none (.t 11)⟩,
       ⟨(some 13), none, .fa 2 (.t 1)⟩,
       ⟨(some 14), none, .ld none (.t 13)⟩,
       ⟨(some 15), none, .build [(.i .i64 0), (.i .i64 0)] [(0, 1, (.t 12)), (1, 1, (.t 14))]⟩,
       ⟨(some 16), none, .fa 2 (.t 1)⟩,
       ⟨(some 17), none, .ld none (.t 16)⟩,
       ⟨(some 18), none, .fa 0 (.t 1)⟩,
       ⟨(some 19), none, .ld none (.t 18)⟩,
       ⟨(some 20), none, .build [(.i .i64 0), (.i .i64 0)] [(0, 1, (.t 17)), (1, 1, (.t 19))]⟩,
       ⟨(some 21), none, .build [(.i .i64 0), (.i .i64 0), (.i .i64 0), (.i .i64 0), (.i .i64 0), (.i .i64 0)] [(0, 2, (.t 10)), (2, 2, (.t 15)), (4, 2, (.t 20))]⟩,
       ⟨(some 22), none, .mv (.c (.i .i64 0))⟩])
     (.blk 0
      (.loop
       (.seq
        (.reg [
          ⟨(some 23), none, .bin .lss (.t 22) (.c (.i .i64 3))⟩])
        (.seq
         (.ite (.t 23)
          .skip
          (.exit 0))
         (.seq
          (.blk 1
           (.seq
            (.reg [
              ⟨(some 24), none, .ix 3 2 (some 2) (.t 21) (.t 22)⟩,
              ⟨(some 5), none, .alloc [(.i .i64 0), (.i .i64 0)]⟩,
              ⟨none, none, .st 2 (.t 5) (.t 24)⟩])
            (.seq
             (.reg [
               ⟨(some 25), none, .fa 0 (.t 5)⟩,
               ⟨(some 26), none, .ld none (.t 25)⟩,
               ⟨(some 27), none, .fa 1 (.t 5)⟩,
               ⟨(some 28), none, .ld none (.t 27)⟩,
               ⟨(some 29), none, .bin .neq (.t 26) (.t 28)⟩])
             (.ite (.t 29)
              (.reg [
                ⟨(some 30), none, .mv (.t 3)⟩,
                ⟨(some 31), none, .ld (some 2) (.t 5)⟩,
                ⟨(some 32), none, .bsi 2 1 [(.i .i64 0), (.i .i64 0)] [(0, (.t 31))]⟩,
                ⟨(some 33), none, .app 2 16 (.t 30) (.t 32)⟩,
                ⟨(some 3), none, .mv (.t 33)⟩])
              .skip))))
          (.reg [
            ⟨(some 34), none, .bin .add (.t 22) (.c (.i .i64 1))⟩,
            ⟨(some 22), none, .mv (.t 34)⟩])))))))
    (.seq
     (.reg [
       ⟨(some 35), none, .mv (.t 3)⟩,
       ⟨(some 2), none, .mv (.t 35)⟩])
     .ret))))
def topo_edges.r : List Rr := [.tmp 2]
abbrev topo_edges.n : Nat := 36
def topo_undirected.c : C :=
 (.seq
  (.reg [
    ⟨(some 1), none, .box (.t 0)⟩,
    ⟨(some 2), none, .alloc [(.i .i64 0), (.i .i64 0)]⟩])
  (.seq
   (.reg [
     ⟨(some 3), none, .fa 0 (.t 1)⟩,
     ⟨(some 4), none, .ld none (.t 3)⟩,
     ⟨(some 5), none, .fa 1 (.t 1)⟩,
     ⟨(some 6), none, .ld none (.t 5)⟩,
     ⟨(some 7), none, .mn [(.t 4), (.t 6)]⟩,
     ⟨(some 8), none, .fa 0 (.t 1)⟩,
     ⟨(some 9), none, .ld none (.t 8)⟩,
     ⟨(some 10), none, .fa 1 (.t 1)⟩,
     ⟨(some 11), none, .ld none (.t 10)⟩,
     ⟨(some 12), none, .mx [(.t 9), (.t 11)]⟩,
     ⟨(some 13), none, .build [(.i .i64 0), (.i .i64 0)] [(0, 1, (.t 7)), (1, 1, (.t 12))]⟩,
     ⟨none, none, .st 2 (.t 2) (.t 13)⟩])
   .ret))
def topo_undirected.r : List Rr := [.cell 2 (some 2)]
abbrev topo_undirected.n : Nat := 14
def topo_order.c (cmp_Compare_int cmp_Or_int : FuncId) : C :=
 (.seq
  (.reg [
    ⟨(some 2), none, .box (.t 0)⟩,
    ⟨(some 3), none, .box (.t 1)⟩,
    ⟨(some 4), none, .mv (.c (.i .i64 0))⟩])
  (.seq
   (.drw [
     ⟨(some 5), none, .fa 0 (.t 2)⟩,
     ⟨(some 6), none, .ld none (.t 5)⟩,
     ⟨(some 7), none, .fa 0 (.t 3)⟩,
     ⟨(some 8), none, .ld none (.t 7)⟩,
     ⟨(some 9), none, .call cmp_Compare_int [(.t 6), (.t 8)]⟩,
     ⟨(some 10), none, .fa 1 (.t 2)⟩,
     ⟨(some 11), none, .ld none (.t 10)⟩,
     ⟨(some 12), none, .fa 1 (.t 3)⟩,
     ⟨(some 13), none, .ld none (.t 12)⟩,
     ⟨(some 14), none, .call cmp_Compare_int [(.t 11), (.t 13)]⟩,
     ⟨(some 15), none, .bsi 1 2 [(.i .i64 0)] [(0, (.t 9)), (1, (.t 14))]⟩,
     ⟨(some 16), none, .call cmp_Or_int [(.t 15)]⟩,
     ⟨(some 4), none, .mv (.t 16)⟩] [[], [], [], [], [], [4], [4], [4], [4], [], [], [], []])
   .ret))
def topo_order.r : List Rr := [.tmp 4]
abbrev topo_order.n : Nat := 17
def topo_Boundary.c (topo_counted topo_reverse slices_SortFunc_api_Edge_api_Edge topo_order : FuncId) : C :=
 (.seq
  (.reg [
    ⟨(some 1), none, .box (.t 0)⟩,
    ⟨(some 2), none, .mv (.c .nil)⟩])
  (.seq
   (.reg [
     ⟨(some 7), none, .ld (some 2) (.t 1)⟩,
     ⟨(some 8), none, .call topo_counted [(.t 7)]⟩,
     ⟨(some 3), none, .mv (.t 8)⟩])
   (.seq
    (.reg [
      ⟨(some 4), none, .mv (.c .nil)⟩])
    (.seq
     (.seq
      (.reg [
        ⟨(some 9), none, .mv (.t 3)⟩,
        ⟨(some 10), none, .mrng (.t 9)⟩])
      (.blk 0
       (.loop
        (.seq
         (.reg [
           ⟨(some 11), none, .mnx (.t 10)⟩,
           ⟨(some 12), none, .ext (.t 11) 0⟩])
         (.seq
          (.ite (.t 12)
           .skip
           (.exit 0))
          (.blk 1
           (.seq
            (.reg [
              ⟨(some 13), none, .men (.t 10)⟩,
              ⟨(some 14), none, .ext (.t 13) 0⟩,
              ⟨(some 15), none, .ext (.t 13) 1⟩,
              ⟨(some 5), none, .alloc [(.i .i64 0), (.i .i64 0)]⟩,
              ⟨none, none, .st 2 (.t 5) (.t 14)⟩,
              ⟨(some 6), none, .mv (.t 15)⟩])
            (.seq
             (.reg [
               ⟨(some 16), none, .mv (.t 6)⟩,
               ⟨(some 17), none, .mv (.t 3)⟩,
               ⟨(some 18), none, .ld (some 2) (.t 5)⟩,
               ⟨(some 19), none, .call topo_reverse [(.t 18)]⟩,
               ⟨(some 20), none, .lk [1, 1] (.i .i64 0) false (.t 17) (.t 19)⟩,
               ⟨(some 21), none, .bin .gtr (.t 16) (.t 20)⟩])
             (.ite (.t 21)
              (.reg [
                ⟨(some 22), none, .mv (.t 4)⟩,
                ⟨(some 23), none, .ld (some 2) (.t 5)⟩,
                ⟨(some 24), none, .bsi 2 1 [(.i .i64 0), (.i .i64 0)] [(0, (.t 23))]⟩,
                ⟨(some 25), none, .app 2 16 (.t 22) (.t 24)⟩,
                ⟨(some 4), none, .mv (.t 25)⟩])
              .skip)))))))))
     (.seq
      (.reg [
        ⟨(some 26), none, .mv (.t 4)⟩,
        ⟨(some 27), none, .call slices_SortFunc_api_Edge_api_Edge [(.t 26), (.c (.f topo_order []))]⟩])
      (.seq
       (.reg [
         ⟨(some 28), none, .mv (.t 4)⟩,
         ⟨(some 2), none, .mv (.t 28)⟩])
       .ret))))))
def topo_Boundary.r : List Rr := [.tmp 2]
abbrev topo_Boundary.n : Nat := 29
def topo_Closed.c (mesh_Check topo_Boundary : FuncId) : C :=
 (.seq
  (.reg [
    ⟨(some 1), none, .box (.t 0)⟩,
    ⟨(some 2), none, .mv (.c (.b false))⟩])
  (.seq
   (.reg [
     ⟨(some 3), none, .ld (some 2) (.t 1)⟩,
     ⟨(some 4), none, .call mesh_Check [(.t 3)]⟩,
     ⟨(some 5), none, .bin .eql (.t 4) (.c (.i .i64 0))⟩,
     ⟨(some 6), none, .mv (.t 5)⟩,
     ⟨(some 7), (some (6, true)), .ld (some 2) (.t 1)⟩,
     ⟨(some 8), (some (6, true)), .call topo_Boundary [(.t 7)]⟩,
     ⟨(some 9), (some (6, true)), .len 0 (.t 8)⟩,
     ⟨(some 10), (some (6, true)), .bin .eql (.t 9) (.c (.i .i64 0))⟩,
     ⟨(some 11), none, .pick (.t 6) (.t 10) (.c (.b false))⟩,
     ⟨(some 2), none, .mv (.t 11)⟩])
   .ret))
def topo_Closed.r : List Rr := [.tmp 2]
abbrev topo_Closed.n : Nat := 12
def topo_Uses.c (topo_counted topo_reverse : FuncId) : C :=
 (.seq
  (.reg [
    ⟨(some 2), none, .box (.t 0)⟩,
    ⟨(some 3), none, .box (.t 1)⟩,
    ⟨(some 4), none, .mv (.c (.i .i64 0))⟩,
    ⟨(some 5), none, .mv (.c (.i .i64 0))⟩])
  (.seq
   (.reg [
     ⟨(some 7), none, .ld (some 2) (.t 2)⟩,
     ⟨(some 8), none, .call topo_counted [(.t 7)]⟩,
     ⟨(some 6), none, .mv (.t 8)⟩])
   (.seq
    (.drw [
      ⟨(some 9), none, .mv (.t 6)⟩,
      ⟨(some 10), none, .ld (some 2) (.t 3)⟩,
      ⟨(some 11), none, .lk [1, 1] (.i .i64 0) false (.t 9) (.t 10)⟩,
      ⟨(some 12), none, .mv (.t 6)⟩,
      ⟨(some 13), none, .ld (some 2) (.t 3)⟩,
      ⟨(some 14), none, .call topo_reverse [(.t 13)]⟩,
      ⟨(some 15), none, .lk [1, 1] (.i .i64 0) false (.t 12) (.t 14)⟩,
      ⟨(some 4), none, .mv (.t 11)⟩,
      ⟨(some 5), none, .mv (.t 15)⟩] [[], [], [], [], [], [1, 2], [], [], []])
    .ret)))
def topo_Uses.r : List Rr := [.tmp 4, .tmp 5]
abbrev topo_Uses.n : Nat := 16
end Go.Abs

