/- The code of functions of the program, the functions that they call left open. -/
import Derived.Test.YtoppidobgkgiiaaGoRevC
set_option linter.unusedVariables false
set_option linter.unusedSimpArgs false
namespace Go.Abs

def shapes_Box.c (shapes_fits shapes_near shapes_plus shapes_corners slices_Clone_api_Vec_api_Vec : FuncId) : C :=
 (.seq
  (.reg [
    ⟨(some 2), none, .box (.t 0)⟩,
    ⟨(some 3), none, .box (.t 1)⟩,
    ⟨(some 4), none, .alloc [.nil, .nil]⟩,
    ⟨(some 5), none, .mv (.c (.i .i64 0))⟩])
  (.seq
   (.blk 0
    (.seq
     (.reg [
       ⟨(some 8), none, .fa 0 (.t 3)⟩,
       ⟨(some 9), none, .ld none (.t 8)⟩,
       ⟨(some 10), none, .fa 1 (.t 3)⟩,
       ⟨(some 11), none, .ld none (.t 10)⟩,
       ⟨(some 12), none, .fa 2 (.t 3)⟩,
       ⟨(some 13), none, .ld none (.t 12)⟩,
       ⟨(some 14), none, .mn [(.t 9), (.t 11), (.t 13)]⟩,
       ⟨(some 15), none, .bin .lss (.t 14) (.c (.i .i64 1))⟩,
       ⟨(some 7), none, .mv (.t 15)⟩])
     (.ite (.t 7)
      (.seq
       (.reg [
         ⟨(some 16), none, .build [.nil, .nil] []⟩,
         ⟨none, none, .st 2 (.t 4) (.t 16)⟩,
         ⟨(some 5), none, .mv (.c (.i .i64 1))⟩])
       .ret)
      (.seq
       (.reg [
         ⟨(some 18), none, .ld (some 3) (.t 2)⟩,
         ⟨(some 19), none, .bsi 3 1 [(.i .i64 0), (.i .i64 0), (.i .i64 0)] [(0, (.t 18))]⟩,
         ⟨(some 20), none, .call shapes_fits [(.t 19)]⟩,
         ⟨(some 21), none, .un .not (.t 20)⟩,
         ⟨(some 22), none, .mv (.t 21)⟩,
         ⟨(some 23), (some (22, false)), .ld (some 3) (.t 3)⟩,
         ⟨(some 24), (some (22, false)), .call shapes_near [(.t 23)]⟩,
         ⟨(some 25), (some (22, false)), .un .not (.t 24)⟩,
         ⟨(some 26), none, .pick (.t 22) (.c (.b true)) (.t 25)⟩,
         ⟨(some 27), none, .mv (.t 26)⟩,
         ⟨(some 28), (some (27, false)), .ld (some 3) (.t 2)⟩,
         ⟨(some 29), (some (27, false)), .ld (some 3) (.t 3)⟩,
         ⟨(some 30), (some (27, false)), .call shapes_plus [(.t 28), (.t 29)]⟩,
         ⟨(some 31), (some (27, false)), .bsi 3 1 [(.i .i64 0), (.i .i64 0), (.i .i64 0)] [(0, (.t 30))]⟩,
         ⟨(some 32), (some (27, false)), .call shapes_fits [(.t 31)]⟩,
         ⟨(some 33), (some (27, false)), .un .not (.t 32)⟩,
         ⟨(some 34), none, .pick (.t 27) (.c (.b true)) (.t 33)⟩,
         ⟨(some 17), none, .mv (.t 34)⟩])
       (.ite (.t 17)
        (.seq
         (.reg [
           ⟨(some 35), none, .build [.nil, .nil] []⟩,
           ⟨none, none, .st 2 (.t 4) (.t 35)⟩,
           ⟨(some 5), none, .mv (.c (.i .i64 8))⟩])
         .ret)
        .skip)))))
   (.seq
    (.reg [
      ⟨(some 36), none, .ld (some 3) (.t 2)⟩,
      ⟨(some 37), none, .ld (some 3) (.t 3)⟩,
      ⟨(some 38), none, .call shapes_corners [(.t 36), (.t 37)]⟩,
      ⟨(some 6), none, .alloc [(.i .i64 0), (.i .i64 0), (.i .i64 0), (.i .i64 0), (.i .i64 0), (.i .i64 0), (.i .i64 0), (.i .i64 0), (.i .i64 0), (.i .i64 0), (.i .i64 0), (.i .i64 0), (.i .i64 0), (.i .i64 0), (.i .i64 0), (.i .i64 0), (.i .i64 0), (.i .i64 0), (.i .i64 0), (.i .i64 0), (.i .i64 0), (.i .i64 0), (.i .i64 0), (.i .i64 0)]⟩,
      ⟨none, none, .st 24 (.t 6) (.t 38)⟩])
    (.seq
     (.reg [
       ⟨(some 39), none, .sla 3 8 (.t 6)⟩,
       ⟨(some 40), none, .call slices_Clone_api_Vec_api_Vec [(.t 39)]⟩,
       ⟨(some 41), none, .build [(.i .i64 0), (.i .i64 0), (.i .i64 0)] [(0, 1, (.c (.i .i64 0))), (1, 1, (.c (.i .i64 2))), (2, 1, (.c (.i .i64 3)))]⟩,
       ⟨(some 42), none, .build [(.i .i64 0), (.i .i64 0), (.i .i64 0)] [(0, 1, (.c (.i .i64 0))), (1, 1, (.c (.i .i64 3))), (2, 1, (.c (.i .i64 1)))]⟩,
       ⟨(some 43), none, .build [(.i .i64 0), (.i .i64 0), (.i .i64 0)] [(0, 1, (.c (.i .i64 4))), (1, 1, (.c (.i .i64 5))), (2, 1, (.c (.i .i64 7)))]⟩,
       ⟨(some 44), none, .build [(.i .i64 0), (.i .i64 0), (.i .i64 0)] [(0, 1, (.c (.i .i64 4))), (1, 1, (.c (.i .i64 7))), (2, 1, (.c (.i .i64 6)))]⟩,
       ⟨(some 45), none, .build [(.i .i64 0), (.i .i64 0), (.i .i64 0)] [(0, 1, (.c (.i .i64 0))), (1, 1, (.c (.i .i64 1))), (2, 1, (.c (.i .i64 5)))]⟩,
       ⟨(some 46), none, .build [(.i .i64 0), (.i .i64 0), (.i .i64 0)] [(0, 1, (.c (.i .i64 0))), (1, 1, (.c (.i .i64 5))), (2, 1, (.c (.i .i64 4)))]⟩,
       ⟨(some 47), none, .build [(.i .i64 0), (.i .i64 0), (.i .i64 0)] [(0, 1, (.c (.i .i64 2))), (1, 1, (.c (.i .i64 6))), (2, 1, (.c (.i .i64 7)))]⟩,
       ⟨(some 48), none, .build [(.i .i64 0), (.i .i64 0), (.i .i64 0)] [(0, 1, (.c (.i .i64 2))), (1, 1, (.c (.i .i64 7))), (2, 1, (.c (.i .i64 3)))]⟩,
       ⟨(some 49), none, .build [(.i .i64 0), (.i .i64 0), (.i .i64 0)] [(0, 1, (.c (.i .i64 0))), (1, 1, (.c (.i .i64 4))), (2, 1, (.c (.i .i64 6)))]⟩,
       ⟨(some 50), none, .build [(.i .i64 0), (.i .i64 0), (.i .i64 0)] [(0, 1, (.c (.i .i64 0))), (1, 1, (.c (.i .i64 6))), (2, 1, (.c (.i .i64 2)))]⟩,
       ⟨(some 51), none, .build [(.i .i64 0), (.i .i64 0), (.i .i64 0)] [(0, 1, (.c (.i .i64 1))), (1, 1, (.c (.i .i64 3))), (2, 1, (.c (.i .i64 7)))]⟩,
       ⟨(some 52), none, .build [(.i .i64 0), (.i .i64 0), (.i .i64 0)] [(0, 1, (.c (.i .i64 1))), (1, 1, (.c (.i .i64 7))), (2, 1, (.c (.i .i64 5)))]⟩,
       ⟨(some 53), none, .bso 3 12 [(.i .i64 0), (.i .i64 0), (.i .i64 0)] [(0, (.t 41)), (1, (.t 42)), (2, (.t 43)), (3, (.t 44)), (4, (.t 45)), (5, (.t 46)), (6, (.t 47)), (7, (.t 48)), (8, (.t 49)), (9, (.t 50)), (10, (.t 51)), (11, (.t 52))]⟩,
       ⟨(some 54), none, .build [.nil, .nil] [(0, 1, (.t 40)), (1, 1, (.t 53))]⟩,
       ⟨none, none, .st 2 (.t 4) (.t 54)⟩,
       ⟨(some 5), none, .mv (.c (.i .i64 0))⟩])
     .ret))))
def shapes_Box.r : List Rr := [.cell 4 (some 2), .tmp 5]
abbrev shapes_Box.n : Nat := 55
def law13_awake.c (shapes_Box law13_corner shapes_Prism shapes_Pyramid shapes_Turn mesh_Volume6 : FuncId) : C :=
 (.seq
  (.reg [
    ⟨(some 0), none, .mv (.c (.b false))⟩])
  (.seq
   (.reg [
     ⟨(some 12), none, .build [(.i .i64 0), (.i .i64 0), (.i .i64 0)] []⟩,
     ⟨(some 13), none, .build [(.i .i64 0), (.i .i64 0), (.i .i64 0)] [(0, 1, (.c (.i .i64 1))), (1, 1, (.c (.i .i64 2))), (2, 1, (.c (.i .i64 3)))]⟩,
     ⟨(some 14), none, .call shapes_Box [(.t 12), (.t 13)]⟩,
     ⟨(some 11), none, .mv (.t 14)⟩,
     ⟨(some 15), none, .ext (.t 11) 0⟩,
     ⟨(some 16), none, .ext (.t 11) 1⟩,
     ⟨(some 1), none, .alloc [.nil, .nil]⟩,
     ⟨none, none, .st 2 (.t 1) (.t 15)⟩,
     ⟨(some 2), none, .mv (.t 16)⟩])
   (.seq
    (.reg [
      ⟨(some 18), none, .call law13_corner []⟩,
      ⟨(some 19), none, .call shapes_Prism [(.t 18), (.c (.i .i64 0)), (.c (.i .i64 1))]⟩,
      ⟨(some 17), none, .mv (.t 19)⟩,
      ⟨(some 20), none, .ext (.t 17) 0⟩,
      ⟨(some 21), none, .ext (.t 17) 1⟩,
      ⟨(some 3), none, .alloc [.nil, .nil]⟩,
      ⟨none, none, .st 2 (.t 3) (.t 20)⟩,
      ⟨(some 4), none, .mv (.t 21)⟩])
    (.seq
     (.reg [
       ⟨(some 23), none, .call law13_corner []⟩,
       ⟨(some 24), none, .build [(.i .i64 0), (.i .i64 0), (.i .i64 0)] [(2, 1, (.c (.i .i64 3)))]⟩,
       ⟨(some 25), none, .call shapes_Pyramid [(.t 23), (.c (.i .i64 0)), (.t 24)]⟩,
       ⟨(some 22), none, .mv (.t 25)⟩,
       ⟨(some 26), none, .ext (.t 22) 0⟩,
       ⟨(some 27), none, .ext (.t 22) 1⟩,
       ⟨(some 5), none, .alloc [.nil, .nil]⟩,
       ⟨none, none, .st 2 (.t 5) (.t 26)⟩,
       ⟨(some 6), none, .mv (.t 27)⟩])
     (.seq
      (.reg [
        ⟨(some 29), none, .build [(.i .i64 0), (.i .i64 0), (.i .i64 0)] [(0, 1, (.c (.i .i64 1))), (1, 1, (.c (.i .i64 2))), (2, 1, (.c (.i .i64 3)))]⟩,
        ⟨(some 30), none, .bso 3 1 [(.i .i64 0), (.i .i64 0), (.i .i64 0)] [(0, (.t 29))]⟩,
        ⟨(some 31), none, .build [.nil, .nil] [(0, 1, (.t 30))]⟩,
        ⟨(some 32), none, .call shapes_Turn [(.t 31), (.c (.i .i64 1))]⟩,
        ⟨(some 28), none, .mv (.t 32)⟩,
        ⟨(some 33), none, .ext (.t 28) 0⟩,
        ⟨(some 34), none, .ext (.t 28) 1⟩,
        ⟨(some 7), none, .alloc [.nil, .nil]⟩,
        ⟨none, none, .st 2 (.t 7) (.t 33)⟩,
        ⟨(some 8), none, .mv (.t 34)⟩])
      (.seq
       (.reg [
         ⟨(some 36), none, .build [(.i .i64 0), (.i .i64 0)] []⟩,
         ⟨(some 37), none, .build [(.i .i64 0), (.i .i64 0)] [(1, 1, (.c (.i .i64 2)))]⟩,
         ⟨(some 38), none, .build [(.i .i64 0), (.i .i64 0)] [(0, 1, (.c (.i .i64 2)))]⟩,
         ⟨(some 39), none, .bsi 2 3 [(.i .i64 0), (.i .i64 0)] [(0, (.t 36)), (1, (.t 37)), (2, (.t 38))]⟩,
         ⟨(some 40), none, .call shapes_Prism [(.t 39), (.c (.i .i64 0)), (.c (.i .i64 1))]⟩,
         ⟨(some 35), none, .mv (.t 40)⟩,
         ⟨(some 41), none, .ext (.t 35) 0⟩,
         ⟨(some 42), none, .ext (.t 35) 1⟩,
         ⟨(some 9), none, .alloc [.nil, .nil]⟩,
         ⟨none, none, .st 2 (.t 9) (.t 41)⟩,
         ⟨(some 10), none, .mv (.t 42)⟩])
       (.seq
        (.seq
         (.reg [
           ⟨(some 43), none, .mv (.t 2)⟩,
           ⟨(some 44), none, .bin .neq (.t 43) (.c (.i .i64 0))⟩,
           ⟨(some 45), none, .mv (.t 44)⟩,
           ⟨(some 46), (some (45, false)), .mv (.t 4)⟩,
           ⟨(some 47), (some (45, false)), .bin .neq (.t 46) (.c (.i .i64 0))⟩,
           ⟨(some 48), none, .pick (.t 45) (.c (.b true)) (.t 47)⟩,
           ⟨(some 49), none, .mv (.t 48)⟩,
           ⟨(some 50), (some (49, false)), .mv (.t 6)⟩,
           ⟨(some 51), (some (49, false)), .bin .neq (.t 50) (.c (.i .i64 0))⟩,
           ⟨(some 52), none, .pick (.t 49) (.c (.b true)) (.t 51)⟩,
           ⟨(some 53), none, .mv (.t 52)⟩,
           ⟨(some 54), (some (53, false)), .mv (.t 8)⟩,
           ⟨(some 55), (some (53, false)), .bin .neq (.t 54) (.c (.i .i64 0))⟩,
           ⟨(some 56), none, .pick (.t 53) (.c (.b true)) (.t 55)⟩,
           ⟨(some 57), none, .mv (.t 56)⟩,
           ⟨(some 58), (some (57, false)), .mv (.t 10)⟩,
           ⟨(some 59), (some (57, false)), .bin .neq (.t 58) (.c (.i .i64 1))⟩,
           ⟨(some 60), none, .pick (.t 57) (.c (.b true)) (.t 59)⟩,
           ⟨(some 61), none, .mv (.t 60)⟩,
           ⟨(some 62), (some (61, false)), .fa 0 (.t 1)⟩,
           ⟨(some 63), (some (61, false)), .ld none (.t 62)⟩,
           ⟨(some 64), (some (61, false)), .len 0 (.t 63)⟩,
           ⟨(some 65), (some (61, false)), .bin .neq (.t 64) (.c (.i .i64 8))⟩,
           ⟨(some 66), none, .pick (.t 61) (.c (.b true)) (.t 65)⟩,
           ⟨(some 67), none, .mv (.t 66)⟩,
           ⟨(some 68), (some (67, false)), .fa 1 (.t 1)⟩,
           ⟨(some 69), (some (67, false)), .ld none (.t 68)⟩,
           ⟨(some 70), (some (67, false)), .len 0 (.t 69)⟩,
           ⟨(some 71), (some (67, false)), .bin .neq (.t 70) (.c (.i .i64 12))⟩,
           ⟨(some 72), none, .pick (.t 67) (.c (.b true)) (.t 71)⟩,
           ⟨(some 73), none, .mv (.t 72)⟩,
           ⟨(some 74), (some (73, false)), .fa 0 (.t 3)⟩,
           ⟨(some 75), (some (73, false)), .ld none (.t 74)⟩,
           ⟨(some 76), (some (73, false)), .len 0 (.t 75)⟩,
           ⟨(some 77), (some (73, false)), .bin .neq (.t 76) (.c (.i .i64 6))⟩,
           ⟨(some 78), none, .pick (.t 73) (.c (.b true)) (.t 77)⟩,
           ⟨(some 79), none, .mv (.t 78)⟩,
           ⟨(some 80), (some (79, false)), .fa 1 (.t 3)⟩,
           ⟨(some 81), (some (79, false)), .ld none (.t 80)⟩,
           ⟨(some 82), (some (79, false)), .len 0 (.t 81)⟩,
           ⟨(some 83), (some (79, false)), .bin .neq (.t 82) (.c (.i .i64 8))⟩,
           ⟨(some 84), none, .pick (.t 79) (.c (.b true)) (.t 83)⟩,
           ⟨(some 85), none, .mv (.t 84)⟩,
           ⟨(some 86), (some (85, false)), .fa 1 (.t 5)⟩,
           ⟨(some 87), (some (85, false)), .ld none (.t 86)⟩,
           ⟨(some 88), (some (85, false)), .len 0 (.t 87)⟩,
           ⟨(some 89), (some (85, false)), .bin .neq (.t 88) (.c (.i .i64 4))⟩,
           ⟨(some 90), none, .pick (.t 85) (.c (.b true)) (.t 89)⟩,
           ⟨(some 91), none, .mv (.t 90)⟩,
           ⟨(some 92), (some (91, false)), .fa 0 (.t 7)⟩,
           ⟨(some 93), (some (91, false)), .ld none (.t 92)⟩,
           ⟨(some 94), (some (91, false)), .len 0 (.t 93)⟩,
           ⟨(some 95), (some (91, false)), .bin .neq (.t 94) (.c (.i .i64 1))⟩,
           ⟨(some 96), none, .pick (.t 91) (.c (.b true)) (.t 95)⟩])
         (.ite (.t 96)
          (.seq
           (.reg [
             ⟨(some 0), none, .mv (.c (.b false))⟩])
           .ret)
          .skip))
        (.seq
         (.reg [
           ⟨(some 97), none, .fa 0 (.t 1)⟩,
           ⟨(some 98), none, .ld none (.t 97)⟩,
           ⟨(some 99), none, .ia 3 (.t 98) (.c (.i .i64 6))⟩,
           ⟨(some 100), none, .ld (some 3) (.t 99)⟩,
           ⟨(some 101), none, .build [(.i .i64 0), (.i .i64 0), (.i .i64 0)] [(1, 1, (.c (.i .i64 2))), (2, 1, (.c (.i .i64 3)))]⟩,
           ⟨(some 102), none, .eqa [1, 1, 1] false (.t 100) (.t 101)⟩,
           ⟨(some 103), none, .mv (.t 102)⟩,
           ⟨(some 104), (some (103, true)), .fa 1 (.t 1)⟩,
           ⟨(some 105), (some (103, true)), .ld none (.t 104)⟩,
           ⟨(some 106), (some (103, true)), .ia 3 (.t 105) (.c (.i .i64 11))⟩,
           ⟨(some 107), (some (103, true)), .ld (some 3) (.t 106)⟩,
           ⟨(some 108), (some (103, true)), .build [(.i .i64 0), (.i .i64 0), (.i .i64 0)] [(0, 1, (.c (.i .i64 1))), (1, 1, (.c (.i .i64 7))), (2, 1, (.c (.i .i64 5)))]⟩,
           ⟨(some 109), (some (103, true)), .eqa [1, 1, 1] false (.t 107) (.t 108)⟩,
           ⟨(some 110), none, .pick (.t 103) (.t 109) (.c (.b false))⟩,
           ⟨(some 111), none, .mv (.t 110)⟩,
           ⟨(some 112), (some (111, true)), .ld (some 2) (.t 1)⟩,
           ⟨(some 113), (some (111, true)), .call mesh_Volume6 [(.t 112)]⟩,
           ⟨(some 114), (some (111, true)), .bin .eql (.t 113) (.c (.i .i64 36))⟩,
           ⟨(some 115), none, .pick (.t 111) (.t 114) (.c (.b false))⟩,
           ⟨(some 116), none, .mv (.t 115)⟩,
           ⟨(some 117), (some (116, true)), .ld (some 2) (.t 3)⟩,
           ⟨(some 118), (some (116, true)), .call mesh_Volume6 [(.t 117)]⟩,
           ⟨(some 119), (some (116, true)), .bin .eql (.t 118) (.c (.i .i64 12))⟩,
           ⟨(some 120), none, .pick (.t 116) (.t 119) (.c (.b false))⟩,
           ⟨(some 121), none, .mv (.t 120)⟩,
           ⟨(some 122), (some (121, true)), .ld (some 2) (.t 5)⟩,
           ⟨(some 123), (some (121, true)), .call mesh_Volume6 [(.t 122)]⟩,
           ⟨(some 124), (some (121, true)), .bin .eql (.t 123) (.c (.i .i64 12))⟩,
           ⟨(some 125), none, .pick (.t 121) (.t 124) (.c (.b false))⟩,
           ⟨(some 126), none, .mv (.t 125)⟩,
           ⟨(some 127), (some (126, true)), .fa 0 (.t 7)⟩,
           ⟨(some 128), (some (126, true)), .ld none (.t 127)⟩,
           ⟨(some 129), (some (126, true)), .ia 3 (.t 128) (.c (.i .i64 0))⟩,
           ⟨(some 130), (some (126, true)), .ld (some 3) (.t 129)⟩,
           ⟨(some 131), (some (126, true)), .build [(.i .i64 0), (.i .i64 0), (.i .i64 0)] [(0, 1, (.c (.i .i64 (-2)))), (1, 1, (.c (.i .i64 1))), (2, 1, (.c (.i .i64 3)))]⟩,
           ⟨(some 132), (some (126, true)), .eqa [1, 1, 1] false (.t 130) (.t 131)⟩,
           ⟨(some 133), none, .pick (.t 126) (.t 132) (.c (.b false))⟩,
           ⟨(some 0), none, .mv (.t 133)⟩])
         .ret))))))))
def law13_awake.r : List Rr := [.tmp 0]
abbrev law13_awake.n : Nat := 134
def law13_cut.c : C :=
 (.seq
  (.reg [
    ⟨(some 2), none, .mv (.c .nil)⟩])
  (.seq
   (.seq
    (.reg [
      ⟨(some 3), none, .mv (.t 0)⟩,
      ⟨(some 4), none, .len 0 (.t 3)⟩,
      ⟨(some 5), none, .bin .gtr (.t 4) (.c (.i .i64 100))⟩])
    (.ite (.t 5)
     (.seq
      (.reg [
        ⟨(some 6), none, .mv (.t 0)⟩,
        ⟨(some 7), none, .slc 2 (.t 6) none (some (.c (.i .i64 100)))⟩,
        ⟨(some 2), none, .mv (.t 7)⟩])
      .ret)
     .skip))
   (.seq
    (.reg [
      ⟨(some 8), none, .mv (.t 0)⟩,
      ⟨(some 2), none, .mv (.t 8)⟩])
    .ret)))
def law13_cut.r : List Rr := [.tmp 2]
abbrev law13_cut.n : Nat := 9
def shapes_Prism.c (shapes_level shapes_bottom shapes_solid : FuncId) : C :=
 (.seq
  (.reg [
    ⟨(some 6), none, .alloc [.nil, .nil]⟩,
    ⟨(some 7), none, .mv (.c (.i .i64 0))⟩])
  (.seq
   (.reg [
     ⟨(some 13), none, .mv (.t 0)⟩,
     ⟨(some 14), none, .len 0 (.t 13)⟩,
     ⟨(some 8), none, .mv (.t 14)⟩])
   (.seq
    (.blk 0
     (.seq
      (.reg [
        ⟨(some 16), none, .mv (.t 8)⟩,
        ⟨(some 17), none, .bin .lss (.t 16) (.c (.i .i64 3))⟩,
        ⟨(some 18), none, .mv (.t 17)⟩,
        ⟨(some 19), (some (18, false)), .mv (.t 8)⟩,
        ⟨(some 20), (some (18, false)), .bin .gtr (.t 19) (.c (.i .i64 64))⟩,
        ⟨(some 21), none, .pick (.t 18) (.c (.b true)) (.t 20)⟩,
        ⟨(some 22), none, .mv (.t 21)⟩,
        ⟨(some 23), (some (22, false)), .mv (.t 2)⟩,
        ⟨(some 24), (some (22, false)), .bin .lss (.t 23) (.c (.i .i64 1))⟩,
        ⟨(some 25), none, .pick (.t 22) (.c (.b true)) (.t 24)⟩,
        ⟨(some 15), none, .mv (.t 25)⟩])
      (.ite (.t 15)
       (.seq
        (.reg [
          ⟨(some 26), none, .build [.nil, .nil] []⟩,
          ⟨none, none, .st 2 (.t 6) (.t 26)⟩,
          ⟨(some 7), none, .mv (.c (.i .i64 1))⟩])
        .ret)
       (.seq
        (.reg [
          ⟨(some 28), none, .mv (.t 2)⟩,
          ⟨(some 29), none, .bin .gtr (.t 28) (.c (.i .i64 131072))⟩,
          ⟨(some 30), none, .mv (.t 29)⟩,
          ⟨(some 31), (some (30, false)), .mv (.t 1)⟩,
          ⟨(some 32), (some (30, false)), .bin .lss (.t 31) (.c (.i .i64 (-131072)))⟩,
          ⟨(some 33), none, .pick (.t 30) (.c (.b true)) (.t 32)⟩,
          ⟨(some 34), none, .mv (.t 33)⟩,
          ⟨(some 35), (some (34, false)), .mv (.t 1)⟩,
          ⟨(some 36), (some (34, false)), .bin .gtr (.t 35) (.c (.i .i64 131072))⟩,
          ⟨(some 37), none, .pick (.t 34) (.c (.b true)) (.t 36)⟩,
          ⟨(some 27), none, .mv (.t 37)⟩])
        (.ite (.t 27)
         (.seq
          (.reg [
            ⟨(some 38), none, .build [.nil, .nil] []⟩,
            ⟨none, none, .st 2 (.t 6) (.t 38)⟩,
            ⟨(some 7), none, .mv (.c (.i .i64 8))⟩])
          .ret)
         .skip)))))
    (.seq
     (.reg [
       ⟨(some 39), none, .mv (.t 0)⟩,
       ⟨(some 40), none, .mv (.t 1)⟩,
       ⟨(some 41), none, .call shapes_level [(.t 39), (.t 40)]⟩,
       ⟨(some 42), none, .mv (.t 0)⟩,
       ⟨(some 43), none, .mv (.t 1)⟩,
       ⟨(some 44), none, .mv (.t 2)⟩,
       ⟨(some 45), none, .bin .add (.t 43) (.t 44)⟩,
       ⟨(some 46), none, .call shapes_level [(.t 42), (.t 45)]⟩,
       ⟨(some 47), none, .app 3 24 (.t 41) (.t 46)⟩,
       ⟨(some 48), none, .mv (.t 8)⟩,
       ⟨(some 49), none, .call shapes_bottom [(.t 48)]⟩,
       ⟨(some 50), none, .build [.nil, .nil] [(0, 1, (.t 47)), (1, 1, (.t 49))]⟩,
       ⟨(some 9), none, .alloc [.nil, .nil]⟩,
       ⟨none, none, .st 2 (.t 9) (.t 50)⟩])
     (.seq
      (.seq
       (.reg [
         ⟨(some 10), none, .mv (.c (.i .i64 1))⟩])
       (.blk 1
        (.loop
         (.seq
          (.seq
           (.reg [
             ⟨(some 51), none, .mv (.t 10)⟩,
             ⟨(some 52), none, .mv (.t 8)⟩,
             ⟨(some 53), none, .bin .sub (.t 52) (.c (.i .i64 1))⟩,
             ⟨(some 54), none, .bin .lss (.t 51) (.t 53)⟩])
           (.ite (.t 54)
            .skip
            (.exit 1)))
          (.seq
           (.blk 2
            (.reg [
              ⟨(some 57), none, .fa 1 (.t 9)⟩,
              ⟨(some 58), none, .ld none (.t 57)⟩,
              ⟨(some 59), none, .mv (.t 8)⟩,
              ⟨(some 60), none, .mv (.t 8)⟩,
              ⟨(some 61), none, .mv (.t 10)⟩,
              ⟨(some 62), none, .bin .add (.t 60) (.t 61)⟩,
              ⟨(some 63), none, .mv (.t 8)⟩,
              ⟨(some 64), none, .mv (.t 10)⟩,
              ⟨(some 65), none, .bin .add (.t 63) (.t 64)⟩,
              ⟨(some 66), none, .bin .add (.t 65) (.c (.i .i64 1))⟩,
              ⟨(some 67), none, .build [(.i .i64 0), (.i .i64 0), (.i .i64 0)] [(0, 1, (.t 59)), (1, 1, (.t 62)), (2, 1, (.t 66))]⟩,
              ⟨(some 68), none, .bsi 3 1 [(.i .i64 0), (.i .i64 0), (.i .i64 0)] [(0, (.t 67))]⟩,
              ⟨(some 69), none, .app 3 24 (.t 58) (.t 68)⟩,
              ⟨(some 70), none, .fa 1 (.t 9)⟩,
              ⟨none, none, .st 1 (.t 70) (.t 69)⟩]))
           (.reg [
             ⟨(some 55), none, .mv (.t 10)⟩,
             ⟨(some 56), none, .bin .add (.t 55) (.c (.i .i64 1))⟩,
             ⟨(some 10), none, .mv (.t 56)⟩]))))))
      (.seq
       (.seq
        (.reg [
          ⟨(some 71), none, .mv (.t 8)⟩,
          ⟨(some 72), none, .mv (.c (.i .i64 0))⟩])
        (.blk 3
         (.loop
          (.seq
           (.reg [
             ⟨(some 73), none, .bin .lss (.t 72) (.t 71)⟩])
           (.seq
            (.ite (.t 73)
             .skip
             (.exit 3))
            (.seq
             (.blk 4
              (.seq
               (.reg [
                 ⟨(some 74), none, .mv (.t 72)⟩,
                 ⟨(some 11), none, .mv (.t 74)⟩])
               (.seq
                (.reg [
                  ⟨(some 75), none, .mv (.t 11)⟩,
                  ⟨(some 76), none, .bin .add (.t 75) (.c (.i .i64 1))⟩,
                  ⟨(some 77), none, .mv (.t 8)⟩,
                  ⟨(some 78), none, .bin .rem (.t 76) (.t 77)⟩,
                  ⟨(some 12), none, .mv (.t 78)⟩])
                (.reg [
                  ⟨(some 79), none, .fa 1 (.t 9)⟩,
                  ⟨(some 80), none, .ld none (.t 79)⟩,
                  ⟨(some 81), none, .mv (.t 11)⟩,
                  ⟨(some 82), none, .mv (.t 12)⟩,
                  ⟨(some 83), none, .mv (.t 8)⟩,
                  ⟨(some 84), none, .mv (.t 12)⟩,
                  ⟨(some 85), none, .bin .add (.t 83) (.t 84)⟩,
                  ⟨(some 86), none, .build [(.i .i64 0), (.i .i64 0), (.i .i64 0)] [(0, 1, (.t 81)), (1, 1, (.t 82)), (2, 1, (.t 85))]⟩,
                  ⟨(some 87), none, .mv (.t 11)⟩,
                  ⟨(some 88), none, .mv (.t 8)⟩,
                  ⟨(some 89), none, .mv (.t 12)⟩,
                  ⟨(some 90), none, .bin .add (.t 88) (.t 89)⟩,
                  ⟨(some 91), none, .mv (.t 8)⟩,
                  ⟨(some 92), none, .mv (.t 11)⟩,
                  ⟨(some 93), none, .bin .add (.t 91) (.t 92)⟩,
                  ⟨(some 94), none, .build [(.i .i64 0), (.i .i64 0), (.i .i64 0)] [(0, 1, (.t 87)), (1, 1, (.t 90)), (2, 1, (.t 93))]⟩,
                  ⟨(some 95), none, .bsi 3 2 [(.i .i64 0), (.i .i64 0), (.i .i64 0)] [(0, (.t 86)), (1, (.t 94))]⟩,
                  ⟨(some 96), none, .app 3 24 (.t 80) (.t 95)⟩,
                  ⟨(some 97), none, .fa 1 (.t 9)⟩,
                  ⟨none, none, .st 1 (.t 97) (.t 96)⟩]))))
             (.reg [
               ⟨(some 98), none, .bin .add (.t 72) (.c (.i .i64 1))⟩,
               ⟨(some 72), none, .mv (.t 98)⟩])))))))
       (.seq
        (.reg [
          ⟨(some 99), none, .mv (.t 0)⟩,
          ⟨(some 100), none, .ld (some 2) (.t 9)⟩,
          ⟨(some 101), none, .call shapes_solid [(.t 99), (.t 100)]⟩,
          ⟨(some 102), none, .ext (.t 101) 0⟩,
          ⟨(some 103), none, .ext (.t 101) 1⟩,
          ⟨none, none, .st 2 (.t 6) (.t 102)⟩,
          ⟨(some 7), none, .mv (.t 103)⟩])
        .ret)))))))
def shapes_Prism.r : List Rr := [.cell 6 (some 2), .tmp 7]
abbrev shapes_Prism.n : Nat := 104
def shapes_Pyramid.c (shapes_level shapes_bottom shapes_solid : FuncId) : C :=
 (.seq
  (.reg [
    ⟨(some 5), none, .box (.t 2)⟩,
    ⟨(some 6), none, .alloc [.nil, .nil]⟩,
    ⟨(some 7), none, .mv (.c (.i .i64 0))⟩])
  (.seq
   (.reg [
     ⟨(some 11), none, .mv (.t 0)⟩,
     ⟨(some 12), none, .len 0 (.t 11)⟩,
     ⟨(some 8), none, .mv (.t 12)⟩])
   (.seq
    (.seq
     (.reg [
       ⟨(some 13), none, .mv (.t 8)⟩,
       ⟨(some 14), none, .bin .lss (.t 13) (.c (.i .i64 3))⟩,
       ⟨(some 15), none, .mv (.t 14)⟩,
       ⟨(some 16), (some (15, false)), .mv (.t 8)⟩,
       ⟨(some 17), (some (15, false)), .bin .gtr (.t 16) (.c (.i .i64 64))⟩,
       ⟨(some 18), none, .pick (.t 15) (.c (.b true)) (.t 17)⟩,
       ⟨(some 19), none, .mv (.t 18)⟩,
       ⟨(some 20), (some (19, false)), .fa 2 (.t 5)⟩,
       ⟨(some 21), (some (19, false)), .ld none (.t 20)⟩,
       ⟨(some 22), (some (19, false)), .mv (.t 1)⟩,
       ⟨(some 23), (some (19, false)), .bin .leq (.t 21) (.t 22)⟩,
       ⟨(some 24), none, .pick (.t 19) (.c (.b true)) (.t 23)⟩])
     (.ite (.t 24)
      (.seq
       (.reg [
         ⟨(some 25), none, .build [.nil, .nil] []⟩,
         ⟨none, none, .st 2 (.t 6) (.t 25)⟩,
         ⟨(some 7), none, .mv (.c (.i .i64 1))⟩])
       .ret)
      .skip))
    (.seq
     (.drw [
       ⟨(some 26), none, .mv (.t 0)⟩,
       ⟨(some 27), none, .mv (.t 1)⟩,
       ⟨(some 28), none, .call shapes_level [(.t 26), (.t 27)]⟩,
       ⟨(some 29), none, .ld (some 3) (.t 5)⟩,
       ⟨(some 30), none, .bsi 3 1 [(.i .i64 0), (.i .i64 0), (.i .i64 0)] [(0, (.t 29))]⟩,
       ⟨(some 31), none, .app 3 24 (.t 28) (.t 30)⟩,
       ⟨(some 32), none, .mv (.t 8)⟩,
       ⟨(some 33), none, .call shapes_bottom [(.t 32)]⟩,
       ⟨(some 34), none, .build [.nil, .nil] [(0, 1, (.t 31)), (1, 1, (.t 33))]⟩,
       ⟨(some 9), none, .alloc [.nil, .nil]⟩,
       ⟨none, none, .st 2 (.t 9) (.t 34)⟩] [[], [], [], [2], [], [], [], [], [], [], []])
     (.seq
      (.seq
       (.reg [
         ⟨(some 35), none, .mv (.t 8)⟩,
         ⟨(some 36), none, .mv (.c (.i .i64 0))⟩])
       (.blk 0
        (.loop
         (.seq
          (.reg [
            ⟨(some 37), none, .bin .lss (.t 36) (.t 35)⟩])
          (.seq
           (.ite (.t 37)
            .skip
            (.exit 0))
           (.seq
            (.blk 1
             (.seq
              (.reg [
                ⟨(some 38), none, .mv (.t 36)⟩,
                ⟨(some 10), none, .mv (.t 38)⟩])
              (.drw [
                ⟨(some 39), none, .fa 1 (.t 9)⟩,
                ⟨(some 40), none, .ld none (.t 39)⟩,
                ⟨(some 41), none, .mv (.t 10)⟩,
                ⟨(some 42), none, .mv (.t 10)⟩,
                ⟨(some 43), none, .bin .add (.t 42) (.c (.i .i64 1))⟩,
                ⟨(some 44), none, .mv (.t 8)⟩,
                ⟨(some 45), none, .bin .rem (.t 43) (.t 44)⟩,
                ⟨(some 46), none, .mv (.t 8)⟩,
                ⟨(some 47), none, .build [(.i .i64 0), (.i .i64 0), (.i .i64 0)] [(0, 1, (.t 41)), (1, 1, (.t 45)), (2, 1, (.t 46))]⟩,
                ⟨(some 48), none, .bsi 3 1 [(.i .i64 0), (.i .i64 0), (.i .i64 0)] [(0, (.t 47))]⟩,
                ⟨(some 49), none, .app 3 24 (.t 40) (.t 48)⟩,
                ⟨(some 50), none, .fa 1 (.t 9)⟩,
                ⟨none, none, .st 1 (.t 50) (.t 49)⟩] [])))
            (.reg [
              ⟨(some 51), none, .bin .add (.t 36) (.c (.i .i64 1))⟩,
              ⟨(some 36), none, .mv (.t 51)⟩])))))))
      (.seq
       (.reg [
         ⟨(some 52), none, .mv (.t 0)⟩,
         ⟨(some 53), none, .ld (some 2) (.t 9)⟩,
         ⟨(some 54), none, .call shapes_solid [(.t 52), (.t 53)]⟩,
         ⟨(some 55), none, .ext (.t 54) 0⟩,
         ⟨(some 56), none, .ext (.t 54) 1⟩,
         ⟨none, none, .st 2 (.t 6) (.t 55)⟩,
         ⟨(some 7), none, .mv (.t 56)⟩])
       .ret))))))
def shapes_Pyramid.r : List Rr := [.cell 6 (some 2), .tmp 7]
abbrev shapes_Pyramid.n : Nat := 57
def shapes_Turn.c (mesh_Check shapes_change shapes_Turn_1 shapes_Turn_2 : FuncId) : C :=
 (.seq
  (.reg [
    ⟨(some 2), none, .box (.t 0)⟩,
    ⟨(some 4), none, .alloc [.nil, .nil]⟩,
    ⟨(some 5), none, .mv (.c (.i .i64 0))⟩])
  (.seq
   (.seq
    (.reg [
      ⟨(some 6), none, .ld (some 2) (.t 2)⟩,
      ⟨(some 7), none, .call mesh_Check [(.t 6)]⟩,
      ⟨(some 8), none, .bin .neq (.t 7) (.c (.i .i64 0))⟩])
    (.ite (.t 8)
     (.seq
      (.reg [
        ⟨(some 9), none, .build [.nil, .nil] []⟩,
        ⟨none, none, .st 2 (.t 4) (.t 9)⟩,
        ⟨(some 5), none, .mv (.c (.i .i64 1))⟩])
      .ret)
     .skip))
   (.seq
    (.seq
     (.reg [
       ⟨(some 10), none, .mv (.t 1)⟩,
       ⟨(some 11), none, .bin .rem (.t 10) (.c (.i .i64 4))⟩,
       ⟨(some 12), none, .bin .add (.t 11) (.c (.i .i64 4))⟩,
       ⟨(some 13), none, .bin .rem (.t 12) (.c (.i .i64 4))⟩,
       ⟨(some 14), none, .mv (.c (.i .i64 0))⟩])
     (.blk 0
      (.loop
       (.seq
        (.reg [
          ⟨(some 15), none, .bin .lss (.t 14) (.t 13)⟩])
        (.seq
         (.ite (.t 15)
          .skip
          (.exit 0))
         (.seq
          (.blk 1
           (.reg [
             ⟨(some 16), none, .ld (some 2) (.t 2)⟩,
             ⟨(some 17), none, .call shapes_change [(.t 16), (.c (.f shapes_Turn_1 []))]⟩,
             ⟨none, none, .st 2 (.t 2) (.t 17)⟩]))
          (.reg [
            ⟨(some 18), none, .bin .add (.t 14) (.c (.i .i64 1))⟩,
            ⟨(some 14), none, .mv (.t 18)⟩])))))))
    (.seq
     (.reg [
       ⟨(some 19), none, .ld (some 2) (.t 2)⟩,
       ⟨(some 20), none, .call shapes_change [(.t 19), (.c (.f shapes_Turn_2 []))]⟩,
       ⟨none, none, .st 2 (.t 4) (.t 20)⟩,
       ⟨(some 5), none, .mv (.c (.i .i64 0))⟩])
     .ret))))
def shapes_Turn.r : List Rr := [.cell 4 (some 2), .tmp 5]
abbrev shapes_Turn.n : Nat := 21
def shapes_fits.c (vec_Valid : FuncId) : C :=
 (.seq
  (.reg [
    ⟨(some 2), none, .mv (.c (.b false))⟩])
  (.seq
   (.seq
    (.reg [
      ⟨(some 5), none, .mv (.t 0)⟩,
      ⟨(some 6), none, .len 0 (.t 5)⟩,
      ⟨(some 7), none, .mv (.c (.i .i64 0))⟩])
    (.blk 0
     (.loop
      (.seq
       (.reg [
         ⟨(some 8), none, .bin .lss (.t 7) (.t 6)⟩])
       (.seq
        (.ite (.t 8)
         .skip
         (.exit 0))
        (.seq
         (.blk 1
          (.seq
           (.reg [
             ⟨(some 9), none, .ia 3 (.t 5) (.t 7)⟩,
             ⟨(some 10), none, .ld (some 3) (.t 9)⟩,
             ⟨(some 4), none, .alloc [(.i .i64 0), (.i .i64 0), (.i .i64 0)]⟩,
             ⟨none, none, .st 3 (.t 4) (.t 10)⟩])
           (.seq
            (.reg [
              ⟨(some 11), none, .ld (some 3) (.t 4)⟩,
              ⟨(some 12), none, .call vec_Valid [(.t 11)]⟩,
              ⟨(some 13), none, .un .not (.t 12)⟩])
            (.ite (.t 13)
             (.seq
              (.reg [
                ⟨(some 2), none, .mv (.c (.b false))⟩])
              .ret)
             .skip))))
         (.reg [
           ⟨(some 14), none, .bin .add (.t 7) (.c (.i .i64 1))⟩,
           ⟨(some 7), none, .mv (.t 14)⟩])))))))
   (.seq
    (.reg [
      ⟨(some 2), none, .mv (.c (.b true))⟩])
    .ret)))
def shapes_fits.r : List Rr := [.tmp 2]
abbrev shapes_fits.n : Nat := 15
def shapes_near.c : C :=
 (.seq
  (.reg [
    ⟨(some 1), none, .box (.t 0)⟩,
    ⟨(some 2), none, .mv (.c (.b false))⟩])
  (.seq
   (.reg [
     ⟨(some 3), none, .fa 0 (.t 1)⟩,
     ⟨(some 4), none, .ld none (.t 3)⟩,
     ⟨(some 5), none, .fa 1 (.t 1)⟩,
     ⟨(some 6), none, .ld none (.t 5)⟩,
     ⟨(some 7), none, .fa 2 (.t 1)⟩,
     ⟨(some 8), none, .ld none (.t 7)⟩,
     ⟨(some 9), none, .mx [(.t 4), (.t 6), (.t 8)]⟩,
     ⟨(some 10), none, .bin .leq (.t 9) (.c (.i .i64 131072))⟩,
     ⟨(some 11), none, .mv (.t 10)⟩,
     ⟨(some 12), (some (11, true)), .fa 0 (.t 1)⟩,
     ⟨(some 13), (some (11, true)), .ld none (.t 12)⟩,
     ⟨(some 14), (some (11, true)), .fa 1 (.t 1)⟩,
     ⟨(some 15), (some (11, true)), .ld none (.t 14)⟩,
     ⟨(some 16), (some (11, true)), .fa 2 (.t 1)⟩,
     ⟨(some 17), (some (11, true)), .ld none (.t 16)⟩,
     ⟨(some 18), (some (11, true)), .mn [(.t 13), (.t 15), (.t 17)]⟩,
     ⟨(some 19), (some (11, true)), .bin .geq (.t 18) (.c (.i .i64 (-131072)))⟩,
     ⟨(some 20), none, .pick (.t 11) (.t 19) (.c (.b false))⟩,
     ⟨(some 2), none, .mv (.t 20)⟩])
   .ret))
def shapes_near.r : List Rr := [.tmp 2]
abbrev shapes_near.n : Nat := 21
def shapes_plus.c : C :=
 (.seq
  (.reg [
    ⟨(some 2), none, .box (.t 0)⟩,
    ⟨(some 3), none, .box (.t 1)⟩,
    ⟨(some 4), none, .alloc [(.i .i64 0), (.i .i64 0), (.i .i64 0)]⟩])
  (.seq
   (.reg [
     ⟨(some 5), none, .fa 0 (.t 2)⟩,
     ⟨(some 6), none, .ld none (.t 5)⟩,
     ⟨(some 7), none, .fa 0 (.t 3)⟩,
     ⟨(some 8), none, .ld none (.t 7)⟩,
     ⟨(some 9), none, .bin .add (.t 6) (.t 8)⟩,
     ⟨(some 10), none, .fa 1 (.t 2)⟩,
     ⟨(some 11), none, .ld none (.t 10)⟩,
     ⟨(some 12), none, .fa 1 (.t 3)⟩,
     ⟨(some 13), none, .ld none (.t 12)⟩,
     ⟨(some 14), none, .bin .add (.t 11) (.t 13)⟩,
     ⟨(some 15), none, .fa 2 (.t 2)⟩,
     ⟨(some 16), none, .ld none (.t 15)⟩,
     ⟨(some 17), none, .fa 2 (.t 3)⟩,
     ⟨(some 18), none, .ld none (.t 17)⟩,
     ⟨(some 19), none, .bin .add (.t 16) (.t 18)⟩,
     ⟨(some 20), none, .build [(.i .i64 0), (.i .i64 0), (.i .i64 0)] [(0, 1, (.t 9)), (1, 1, (.t 14)), (2, 1, (.t 19))]⟩,
     ⟨none, none, .st 3 (.t 4) (.t 20)⟩])
   .ret))
def shapes_plus.r : List Rr := [.cell 4 (some 3)]
abbrev shapes_plus.n : Nat := 21
def shapes_corners.c (shapes_plus : FuncId) : C :=
 (.seq
  (.reg [
    ⟨(some 2), none, .box (.t 0)⟩,
    ⟨(some 3), none, .box (.t 1)⟩,
    ⟨(some 4), none, .alloc [(.i .i64 0), (.i .i64 0), (.i .i64 0), (.i .i64 0), (.i .i64 0), (.i .i64 0), (.i .i64 0), (.i .i64 0), (.i .i64 0), (.i .i64 0), (.i .i64 0), (.i .i64 0), (.i .i64 0), (.i .i64 0), (.i .i64 0), (.i .i64 0), (.i .i64 0), (.i .i64 0), (.i .i64 0), (.i .i64 0), (.i .i64 0), (.i .i64 0), (.i .i64 0), (.i .i64 0)]⟩])
  (.seq
   (.reg [
     ⟨(some 5), none, .alloc [(.i .i64 0), (.i .i64 0), (.i .i64 0), (.i .i64 0), (.i .i64 0), (.i .i64 0), (.i .i64 0), (.i .i64 0), (.i .i64 0), (.i .i64 0), (.i .i64 0), (.i .i64 0), (.i .i64 0), (.i .i64 0), (.i .i64 0), (.i .i64 0), (.i .i64 0), (.i .i64 0), (.i .i64 0), (.i .i64 0), (.i .i64 0), (.i .i64 0), (.i .i64 0), (.i .i64 0)]⟩])
   (.seq
    (.seq
     (.reg [
       ⟨(some 7), none, .mv (.c (.i .i64 0))⟩])
     (.blk 0
      (.loop
       (.seq
        (.reg [
          ⟨(some 8), none, .bin .lss (.t 7) (.c (.i .i64 8))⟩])
        (.seq
         (.ite (.t 8)
          .skip
          (.exit 0))
         (.seq
          (.blk 1
           (.seq
            (.reg [
              ⟨(some 9), none, .mv (.t 7)⟩,
              ⟨(some 6), none, .mv (.t 9)⟩])
            (.reg [
              ⟨(some 10), none, .mv (.t 6)⟩,
              ⟨(some 11), none, .ld (some 3) (.t 2)⟩,
              ⟨(some 12), none, .mv (.t 6)⟩,
              ⟨(some 13), none, .bin .and (.t 12) (.c (.i .i64 1))⟩,
              ⟨(some 14), none, .fa 0 (.t 3)⟩,
              ⟨(some 15), none, .ld none (.t 14)⟩,
              ⟨(some 16), none, .bin .mul (.t 13) (.t 15)⟩,
              ⟨(some 17), none, .mv (.t 6)⟩,
              ⟨(some 18), none, .bin .shr (.t 17) (.c (.i .u64 1))⟩,
              ⟨(some 19), none, .bin .and (.t 18) (.c (.i .i64 1))⟩,
              ⟨(some 20), none, .fa 1 (.t 3)⟩,
              ⟨(some 21), none, .ld none (.t 20)⟩,
              ⟨(some 22), none, .bin .mul (.t 19) (.t 21)⟩,
              ⟨(some 23), none, .mv (.t 6)⟩,
              ⟨(some 24), none, .bin .shr (.t 23) (.c (.i .u64 2))⟩,
              ⟨(some 25), none, .bin .and (.t 24) (.c (.i .i64 1))⟩,
              ⟨(some 26), none, .fa 2 (.t 3)⟩,
              ⟨(some 27), none, .ld none (.t 26)⟩,
              ⟨(some 28), none, .bin .mul (.t 25) (.t 27)⟩,
              ⟨(some 29), none, .build [(.i .i64 0), (.i .i64 0), (.i .i64 0)] [(0, 1, (.t 16)), (1, 1, (.t 22)), (2, 1, (.t 28))]⟩,
              ⟨(some 30), none, .call shapes_plus [(.t 11), (.t 29)]⟩,
              ⟨(some 31), none, .iaa 8 3 (.t 5) (.t 10)⟩,
              ⟨none, none, .st 3 (.t 31) (.t 30)⟩])))
          (.reg [
            ⟨(some 32), none, .bin .add (.t 7) (.c (.i .i64 1))⟩,
            ⟨(some 7), none, .mv (.t 32)⟩])))))))
    (.seq
     (.reg [
       ⟨(some 33), none, .ld (some 24) (.t 5)⟩,
       ⟨none, none, .st 24 (.t 4) (.t 33)⟩])
     .ret))))
def shapes_corners.r : List Rr := [.cell 4 (some 24)]
abbrev shapes_corners.n : Nat := 34
def slices_Clone_api_Vec_api_Vec.c : C :=
 (.seq
  (.reg [
    ⟨(some 2), none, .mv (.c .nil)⟩])
  (.seq
   (.seq
    (.reg [
      ⟨(some 3), none, .mv (.t 0)⟩,
      ⟨(some 4), none, .isn false (.t 3)⟩])
    (.ite (.t 4)
     (.seq
      (.reg [
        ⟨(some 2), none, .mv (.c .nil)⟩])
      .ret)
     .skip))
   (.seq
    (.reg [
      ⟨(some 5), none, .bso 3 0 [(.i .i64 0), (.i .i64 0), (.i .i64 0)] []⟩,
      ⟨(some 6), none, .mv (.t 0)⟩,
      ⟨(some 7), none, .app 3 24 (.t 5) (.t 6)⟩,
      ⟨(some 2), none, .mv (.t 7)⟩])
    .ret)))
def slices_Clone_api_Vec_api_Vec.r : List Rr := [.tmp 2]
abbrev slices_Clone_api_Vec_api_Vec.n : Nat := 8
def law13_corner.c : C :=
 (.seq
  (.reg [
    ⟨(some 0), none, .mv (.c .nil)⟩])
  (.seq
   (.reg [
     ⟨(some 1), none, .build [(.i .i64 0), (.i .i64 0)] []⟩,
     ⟨(some 2), none, .build [(.i .i64 0), (.i .i64 0)] [(0, 1, (.c (.i .i64 2)))]⟩,
     ⟨(some 3), none, .build [(.i .i64 0), (.i .i64 0)] [(1, 1, (.c (.i .i64 2)))]⟩,
     ⟨(some 4), none, .bso 2 3 [(.i .i64 0), (.i .i64 0)] [(0, (.t 1)), (1, (.t 2)), (2, (.t 3))]⟩,
     ⟨(some 0), none, .mv (.t 4)⟩])
   .ret))
def law13_corner.r : List Rr := [.tmp 0]
abbrev law13_corner.n : Nat := 5
def shapes_level.c : C :=
 (.seq
  (.reg [
    ⟨(some 4), none, .mv (.c .nil)⟩])
  (.seq
   (.reg [
     ⟨(some 5), none, .mv (.c .nil)⟩])
   (.seq
    (.seq
     (.reg [
       ⟨(some 8), none, .mv (.t 0)⟩,
       ⟨(some 9), none, .len 0 (.t 8)⟩,
       ⟨(some 10), none, .mv (.c (.i .i64 0))⟩])
     (.blk 0
      (.loop
       (.seq
        (.reg [
          ⟨(some 11), none, .bin .lss (.t 10) (.t 9)⟩])
        (.seq
         (.ite (.t 11)
          .skip
          (.exit 0))
         (.seq
          (.blk 1
           (.seq
            (.reg [
              ⟨(some 12), none, .ia 2 (.t 8) (.t 10)⟩,
              ⟨(some 13), none, .ld (some 2) (.t 12)⟩,
              ⟨(some 7), none, .alloc [(.i .i64 0), (.i .i64 0)]⟩,
              ⟨none, none, .st 2 (.t 7) (.t 13)⟩])
            (.reg [
              ⟨(some 14), none, .mv (.t 5)⟩,
              ⟨(some 15), none, .fa 0 (.t 7)⟩,
              ⟨(some 16), none, .ld none (.t 15)⟩,
              ⟨(some 17), none, .fa 1 (.t 7)⟩,
              ⟨(some 18), none, .ld none (.t 17)⟩,
              ⟨(some 19), none, .mv (.t 1)⟩,
              ⟨(some 20), none, .build [(.i .i64 0), (.i .i64 0), (.i .i64 0)] [(0, 1, (.t 16)), (1, 1, (.t 18)), (2, 1, (.t 19))]⟩,
              ⟨(some 21), none, .bsi 3 1 [(.i .i64 0), (.i .i64 0), (.i .i64 0)] [(0, (.t 20))]⟩,
              ⟨(some 22), none, .app 3 24 (.t 14) (.t 21)⟩,
              ⟨(some 5), none, .mv (.t 22)⟩])))
          (.reg [
            ⟨(some 23), none, .bin .add (.t 10) (.c (.i .i64 1))⟩,
            ⟨(some 10), none, .mv (.t 23)⟩])))))))
    (.seq
     (.reg [
       ⟨(some 24), none, .mv (.t 5)⟩,
       ⟨(some 4), none, .mv (.t 24)⟩])
     .ret))))
def shapes_level.r : List Rr := [.tmp 4]
abbrev shapes_level.n : Nat := 25
def shapes_bottom.c : C :=
 (.seq
  (.reg [
    ⟨(some 2), none, .mv (.c .nil)⟩])
  (.seq
   (.reg [
     ⟨(some 3), none, .mv (.c .nil)⟩])
   (.seq
    (.seq
     (.reg [
       ⟨(some 4), none, .mv (.c (.i .i64 1))⟩])
     (.blk 0
      (.loop
       (.seq
        (.seq
         (.reg [
           ⟨(some 5), none, .mv (.t 4)⟩,
           ⟨(some 6), none, .mv (.t 0)⟩,
           ⟨(some 7), none, .bin .sub (.t 6) (.c (.i .i64 1))⟩,
           ⟨(some 8), none, .bin .lss (.t 5) (.t 7)⟩])
         (.ite (.t 8)
          .skip
          (.exit 0)))
        (.seq
         (.blk 1
          (.reg [
            ⟨(some 11), none, .mv (.t 3)⟩,
            ⟨(some 12), none, .mv (.t 4)⟩,
            ⟨(some 13), none, .bin .add (.t 12) (.c (.i .i64 1))⟩,
            ⟨(some 14), none, .mv (.t 4)⟩,
            ⟨(some 15), none, .build [(.i .i64 0), (.i .i64 0), (.i .i64 0)] [(0, 1, (.c (.i .i64 0))), (1, 1, (.t 13)), (2, 1, (.t 14))]⟩,
            ⟨(some 16), none, .bsi 3 1 [(.i .i64 0), (.i .i64 0), (.i .i64 0)] [(0, (.t 15))]⟩,
            ⟨(some 17), none, .app 3 24 (.t 11) (.t 16)⟩,
            ⟨(some 3), none, .mv (.t 17)⟩]))
         (.reg [
           ⟨(some 9), none, .mv (.t 4)⟩,
           ⟨(some 10), none, .bin .add (.t 9) (.c (.i .i64 1))⟩,
           ⟨(some 4), none, .mv (.t 10)⟩]))))))
    (.seq
     (.reg [
       ⟨(some 18), none, .mv (.t 3)⟩,
       ⟨(some 2), none, .mv (.t 18)⟩])
     .ret))))
def shapes_bottom.r : List Rr := [.tmp 2]
abbrev shapes_bottom.n : Nat := 19
def shapes_solid.c (shapes_fits shapes_convex : FuncId) : C :=
 (.seq
  (.reg [
    ⟨(some 3), none, .box (.t 1)⟩,
    ⟨(some 4), none, .alloc [.nil, .nil]⟩,
    ⟨(some 5), none, .mv (.c (.i .i64 0))⟩])
  (.seq
   (.blk 0
    (.seq
     (.reg [
       ⟨(some 7), none, .fa 0 (.t 3)⟩,
       ⟨(some 8), none, .ld none (.t 7)⟩,
       ⟨(some 9), none, .call shapes_fits [(.t 8)]⟩,
       ⟨(some 10), none, .un .not (.t 9)⟩,
       ⟨(some 6), none, .mv (.t 10)⟩])
     (.ite (.t 6)
      (.seq
       (.reg [
         ⟨(some 11), none, .build [.nil, .nil] []⟩,
         ⟨none, none, .st 2 (.t 4) (.t 11)⟩,
         ⟨(some 5), none, .mv (.c (.i .i64 8))⟩])
       .ret)
      (.seq
       (.reg [
         ⟨(some 13), none, .mv (.t 0)⟩,
         ⟨(some 14), none, .call shapes_convex [(.t 13)]⟩,
         ⟨(some 15), none, .un .not (.t 14)⟩,
         ⟨(some 12), none, .mv (.t 15)⟩])
       (.ite (.t 12)
        (.seq
         (.reg [
           ⟨(some 16), none, .build [.nil, .nil] []⟩,
           ⟨none, none, .st 2 (.t 4) (.t 16)⟩,
           ⟨(some 5), none, .mv (.c (.i .i64 1))⟩])
         .ret)
        .skip)))))
   (.seq
    (.reg [
      ⟨(some 17), none, .ld (some 2) (.t 3)⟩,
      ⟨none, none, .st 2 (.t 4) (.t 17)⟩,
      ⟨(some 5), none, .mv (.c (.i .i64 0))⟩])
    .ret)))
def shapes_solid.r : List Rr := [.cell 4 (some 2), .tmp 5]
abbrev shapes_solid.n : Nat := 18
def shapes_change.c (slices_Clone_api_Vec_api_Vec slices_Clone_api_Tri_api_Tri : FuncId) : C :=
 (.seq
  (.reg [
    ⟨(some 2), none, .box (.t 0)⟩,
    ⟨(some 4), none, .alloc [.nil, .nil]⟩])
  (.seq
   (.drw [
     ⟨(some 8), none, .fa 0 (.t 2)⟩,
     ⟨(some 9), none, .ld none (.t 8)⟩,
     ⟨(some 10), none, .call slices_Clone_api_Vec_api_Vec [(.t 9)]⟩,
     ⟨(some 11), none, .fa 1 (.t 2)⟩,
     ⟨(some 12), none, .ld none (.t 11)⟩,
     ⟨(some 13), none, .call slices_Clone_api_Tri_api_Tri [(.t 12)]⟩,
     ⟨(some 14), none, .build [.nil, .nil] [(0, 1, (.t 10)), (1, 1, (.t 13))]⟩,
     ⟨(some 5), none, .alloc [.nil, .nil]⟩,
     ⟨none, none, .st 2 (.t 5) (.t 14)⟩] [[], [], [], [2], [2], [], [], [], []])
   (.seq
    (.seq
     (.reg [
       ⟨(some 15), none, .fa 0 (.t 5)⟩,
       ⟨(some 16), none, .ld none (.t 15)⟩,
       ⟨(some 17), none, .len 0 (.t 16)⟩,
       ⟨(some 18), none, .mv (.c (.i .i64 0))⟩])
     (.blk 0
      (.loop
       (.seq
        (.reg [
          ⟨(some 19), none, .bin .lss (.t 18) (.t 17)⟩])
        (.seq
         (.ite (.t 19)
          .skip
          (.exit 0))
         (.seq
          (.blk 1
           (.seq
            (.reg [
              ⟨(some 20), none, .mv (.t 18)⟩,
              ⟨(some 21), none, .ia 3 (.t 16) (.t 18)⟩,
              ⟨(some 22), none, .ld (some 3) (.t 21)⟩,
              ⟨(some 7), none, .alloc [(.i .i64 0), (.i .i64 0), (.i .i64 0)]⟩,
              ⟨(some 6), none, .mv (.t 20)⟩,
              ⟨none, none, .st 3 (.t 7) (.t 22)⟩])
            (.drw [
              ⟨(some 23), none, .fa 0 (.t 5)⟩,
              ⟨(some 24), none, .ld none (.t 23)⟩,
              ⟨(some 25), none, .mv (.t 6)⟩,
              ⟨(some 26), none, .mv (.t 1)⟩,
              ⟨(some 27), none, .ld (some 3) (.t 7)⟩,
              ⟨(some 28), none, .callv (.t 26) [(.t 27)]⟩,
              ⟨(some 29), none, .ia 3 (.t 24) (.t 25)⟩,
              ⟨none, none, .st 3 (.t 29) (.t 28)⟩] [[], [], [], [], [], [0, 1], [], []])))
          (.reg [
            ⟨(some 30), none, .bin .add (.t 18) (.c (.i .i64 1))⟩,
            ⟨(some 18), none, .mv (.t 30)⟩])))))))
    (.seq
     (.reg [
       ⟨(some 31), none, .ld (some 2) (.t 5)⟩,
       ⟨none, none, .st 2 (.t 4) (.t 31)⟩])
     .ret))))
def shapes_change.r : List Rr := [.cell 4 (some 2)]
abbrev shapes_change.n : Nat := 32
def shapes_Turn_1.c : C :=
 (.seq
  (.reg [
    ⟨(some 1), none, .box (.t 0)⟩,
    ⟨(some 2), none, .alloc [(.i .i64 0), (.i .i64 0), (.i .i64 0)]⟩])
  (.seq
   (.reg [
     ⟨(some 3), none, .fa 1 (.t 1)⟩,
     ⟨(some 4), none, .ld none (.t 3)⟩,
     ⟨(some 5), none, .un .neg (.t 4)⟩,
     ⟨(some 6), none, .fa 0 (.t 1)⟩,
     ⟨(some 7), none, .ld none (.t 6)⟩,
     ⟨(some 8), none, .fa 2 (.t 1)⟩,
     ⟨(some 9), none, .ld none (.t 8)⟩,
     ⟨(some 10), none, .build [(.i .i64 0), (.i .i64 0), (.i .i64 0)] [(0, 1, (.t 5)), (1, 1, (.t 7)), (2, 1, (.t 9))]⟩,
     ⟨none, none, .st 3 (.t 2) (.t 10)⟩])
   .ret))
def shapes_Turn_1.r : List Rr := [.cell 2 (some 3)]
abbrev shapes_Turn_1.n : Nat := 11
def shapes_Turn_2.c : C :=
 (.seq
  (.reg [
    ⟨(some 1), none, .box (.t 0)⟩,
    ⟨(some 2), none, .alloc [(.i .i64 0), (.i .i64 0), (.i .i64 0)]⟩])
  (.seq
   (.reg [
     ⟨(some 3), none, .ld (some 3) (.t 1)⟩,
     ⟨none, none, .st 3 (.t 2) (.t 3)⟩])
   .ret))
def shapes_Turn_2.r : List Rr := [.cell 2 (some 3)]
abbrev shapes_Turn_2.n : Nat := 4
def shapes_convex.c (planar_Turn : FuncId) : C :=
 (.seq
  (.reg [
    ⟨(some 2), none, .mv (.c (.b false))⟩])
  (.seq
   (.seq
    (.reg [
      ⟨(some 8), none, .mv (.t 0)⟩,
      ⟨(some 9), none, .len 0 (.t 8)⟩,
      ⟨(some 10), none, .mv (.c (.i .i64 0))⟩])
    (.blk 0
     (.loop
      (.seq
       (.reg [
         ⟨(some 11), none, .bin .lss (.t 10) (.t 9)⟩])
       (.seq
        (.ite (.t 11)
         .skip
         (.exit 0))
        (.seq
         (.blk 1
          (.seq
           (.reg [
             ⟨(some 12), none, .mv (.t 10)⟩,
             ⟨(some 13), none, .ia 2 (.t 8) (.t 10)⟩,
             ⟨(some 14), none, .ld (some 2) (.t 13)⟩,
             ⟨(some 4), none, .alloc [(.i .i64 0), (.i .i64 0)]⟩,
             ⟨(some 3), none, .mv (.t 12)⟩,
             ⟨none, none, .st 2 (.t 4) (.t 14)⟩])
           (.seq
            (.reg [
              ⟨(some 15), none, .mv (.t 3)⟩,
              ⟨(some 16), none, .bin .add (.t 15) (.c (.i .i64 1))⟩,
              ⟨(some 17), none, .mv (.t 0)⟩,
              ⟨(some 18), none, .len 0 (.t 17)⟩,
              ⟨(some 19), none, .bin .rem (.t 16) (.t 18)⟩,
              ⟨(some 5), none, .mv (.t 19)⟩])
            (.seq
             (.reg [
               ⟨(some 20), none, .mv (.t 0)⟩,
               ⟨(some 21), none, .len 0 (.t 20)⟩,
               ⟨(some 22), none, .mv (.c (.i .i64 0))⟩])
             (.blk 2
              (.loop
               (.seq
                (.reg [
                  ⟨(some 23), none, .bin .lss (.t 22) (.t 21)⟩])
                (.seq
                 (.ite (.t 23)
                  .skip
                  (.exit 2))
                 (.seq
                  (.blk 3
                   (.seq
                    (.reg [
                      ⟨(some 24), none, .mv (.t 22)⟩,
                      ⟨(some 25), none, .ia 2 (.t 20) (.t 22)⟩,
                      ⟨(some 26), none, .ld (some 2) (.t 25)⟩,
                      ⟨(some 7), none, .alloc [(.i .i64 0), (.i .i64 0)]⟩,
                      ⟨(some 6), none, .mv (.t 24)⟩,
                      ⟨none, none, .st 2 (.t 7) (.t 26)⟩])
                    (.seq
                     (.drw [
                       ⟨(some 27), none, .mv (.t 6)⟩,
                       ⟨(some 28), none, .mv (.t 3)⟩,
                       ⟨(some 29), none, .bin .neq (.t 27) (.t 28)⟩,
                       ⟨(some 30), none, .mv (.t 29)⟩,
                       ⟨(some 31), (some (30, true)), .mv (.t 6)⟩,
                       ⟨(some 32), (some (30, true)), .mv (.t 5)⟩,
                       ⟨(some 33), (some (30, true)), .bin .neq (.t 31) (.t 32)⟩,
                       ⟨(some 34), none, .pick (.t 30) (.t 33) (.c (.b false))⟩,
                       ⟨(some 35), none, .mv (.t 34)⟩,
                       ⟨(some 36), (some (35, true)), .ld (some 2) (.t 4)⟩,
                       ⟨(some 37), (some (35, true)), .mv (.t 0)⟩,
                       ⟨(some 38), (some (35, true)), .mv (.t 5)⟩,
                       ⟨(some 39), (some (35, true)), .ia 2 (.t 37) (.t 38)⟩,
                       ⟨(some 40), (some (35, true)), .ld (some 2) (.t 39)⟩,
                       ⟨(some 41), (some (35, true)), .ld (some 2) (.t 7)⟩,
                       ⟨(some 42), (some (35, true)), .call planar_Turn [(.t 36), (.t 40), (.t 41)]⟩,
                       ⟨(some 43), (some (35, true)), .bin .leq (.t 42) (.c (.i .i64 0))⟩,
                       ⟨(some 44), none, .pick (.t 35) (.t 43) (.c (.b false))⟩] [])
                     (.ite (.t 44)
                      (.seq
                       (.reg [
                         ⟨(some 2), none, .mv (.c (.b false))⟩])
                       .ret)
                      .skip))))
                  (.reg [
                    ⟨(some 45), none, .bin .add (.t 22) (.c (.i .i64 1))⟩,
                    ⟨(some 22), none, .mv (.t 45)⟩]))))))))))
         (.reg [
           ⟨(some 46), none, .bin .add (.t 10) (.c (.i .i64 1))⟩,
           ⟨(some 10), none, .mv (.t 46)⟩])))))))
   (.seq
    (.reg [
      ⟨(some 2), none, .mv (.c (.b true))⟩])
    .ret)))
def shapes_convex.r : List Rr := [.tmp 2]
abbrev shapes_convex.n : Nat := 47
def slices_Clone_api_Tri_api_Tri.c : C :=
 (.seq
  (.reg [
    ⟨(some 2), none, .mv (.c .nil)⟩])
  (.seq
   (.seq
    (.reg [
      ⟨(some 3), none, .mv (.t 0)⟩,
      ⟨(some 4), none, .isn false (.t 3)⟩])
    (.ite (.t 4)
     (.seq
      (.reg [
        ⟨(some 2), none, .mv (.c .nil)⟩])
      .ret)
     .skip))
   (.seq
    (.reg [
      ⟨(some 5), none, .bso 3 0 [(.i .i64 0), (.i .i64 0), (.i .i64 0)] []⟩,
      ⟨(some 6), none, .mv (.t 0)⟩,
      ⟨(some 7), none, .app 3 24 (.t 5) (.t 6)⟩,
      ⟨(some 2), none, .mv (.t 7)⟩])
    .ret)))
def slices_Clone_api_Tri_api_Tri.r : List Rr := [.tmp 2]
abbrev slices_Clone_api_Tri_api_Tri.n : Nat := 8
def planar_Turn.c (planar_Cross : FuncId) : C :=
 (.seq
  (.reg [
    ⟨(some 3), none, .box (.t 0)⟩,
    ⟨(some 4), none, .box (.t 1)⟩,
    ⟨(some 5), none, .box (.t 2)⟩,
    ⟨(some 6), none, .mv (.c (.i .i64 0))⟩])
  (.seq
   (.seq
    (.reg [
      ⟨(some 8), none, .ld (some 2) (.t 3)⟩,
      ⟨(some 9), none, .ld (some 2) (.t 4)⟩,
      ⟨(some 10), none, .ld (some 2) (.t 5)⟩,
      ⟨(some 11), none, .call planar_Cross [(.t 8), (.t 9), (.t 10)]⟩,
      ⟨(some 7), none, .mv (.t 11)⟩])
    (.blk 0
     (.seq
      (.reg [
        ⟨(some 13), none, .mv (.t 7)⟩,
        ⟨(some 14), none, .bin .gtr (.t 13) (.c (.i .i64 0))⟩,
        ⟨(some 12), none, .mv (.t 14)⟩])
      (.ite (.t 12)
       (.seq
        (.reg [
          ⟨(some 6), none, .mv (.c (.i .i64 1))⟩])
        .ret)
       (.seq
        (.reg [
          ⟨(some 16), none, .mv (.t 7)⟩,
          ⟨(some 17), none, .bin .lss (.t 16) (.c (.i .i64 0))⟩,
          ⟨(some 15), none, .mv (.t 17)⟩])
        (.ite (.t 15)
         (.seq
          (.reg [
            ⟨(some 6), none, .mv (.c (.i .i64 (-1)))⟩])
          .ret)
         .skip))))))
   (.seq
    (.reg [
      ⟨(some 6), none, .mv (.c (.i .i64 0))⟩])
    .ret)))
def planar_Turn.r : List Rr := [.tmp 6]
abbrev planar_Turn.n : Nat := 18
def planar_Cross.c (planar_Valid : FuncId) : C :=
 (.seq
  (.reg [
    ⟨(some 3), none, .box (.t 0)⟩,
    ⟨(some 4), none, .box (.t 1)⟩,
    ⟨(some 5), none, .box (.t 2)⟩,
    ⟨(some 6), none, .mv (.c (.i .i64 0))⟩])
  (.seq
   (.seq
    (.reg [
      ⟨(some 7), none, .ld (some 2) (.t 3)⟩,
      ⟨(some 8), none, .call planar_Valid [(.t 7)]⟩,
      ⟨(some 9), none, .un .not (.t 8)⟩,
      ⟨(some 10), none, .mv (.t 9)⟩,
      ⟨(some 11), (some (10, false)), .ld (some 2) (.t 4)⟩,
      ⟨(some 12), (some (10, false)), .call planar_Valid [(.t 11)]⟩,
      ⟨(some 13), (some (10, false)), .un .not (.t 12)⟩,
      ⟨(some 14), none, .pick (.t 10) (.c (.b true)) (.t 13)⟩,
      ⟨(some 15), none, .mv (.t 14)⟩,
      ⟨(some 16), (some (15, false)), .ld (some 2) (.t 5)⟩,
      ⟨(some 17), (some (15, false)), .call planar_Valid [(.t 16)]⟩,
      ⟨(some 18), (some (15, false)), .un .not (.t 17)⟩,
      ⟨(some 19), none, .pick (.t 15) (.c (.b true)) (.t 18)⟩])
    (.ite (.t 19)
     (.seq
      (.reg [
        ⟨(some 6), none, .mv (.c (.i .i64 0))⟩])
      .ret)
     .skip))
   (.seq
    (.reg [
      ⟨(some 20), none, .fa 0 (.t 4)⟩,
      ⟨(some 21), none, .ld none (.t 20)⟩,
      ⟨(some 22), none, .fa 0 (.t 3)⟩,
      ⟨(some 23), none, .ld none (.t 22)⟩,
      ⟨(some 24), none, .bin .sub (.t 21) (.t 23)⟩,
      ⟨(some 25), none, .fa 1 (.t 5)⟩,
      ⟨(some 26), none, .ld none (.t 25)⟩,
      ⟨(some 27), none, .fa 1 (.t 3)⟩,
      ⟨(some 28), none, .ld none (.t 27)⟩,
      ⟨(some 29), none, .bin .sub (.t 26) (.t 28)⟩,
      ⟨(some 30), none, .bin .mul (.t 24) (.t 29)⟩,
      ⟨(some 31), none, .fa 1 (.t 4)⟩,
      ⟨(some 32), none, .ld none (.t 31)⟩,
      ⟨(some 33), none, .fa 1 (.t 3)⟩,
      ⟨(some 34), none, .ld none (.t 33)⟩,
      ⟨(some 35), none, .bin .sub (.t 32) (.t 34)⟩,
      ⟨(some 36), none, .fa 0 (.t 5)⟩,
      ⟨(some 37), none, .ld none (.t 36)⟩,
      ⟨(some 38), none, .fa 0 (.t 3)⟩,
      ⟨(some 39), none, .ld none (.t 38)⟩,
      ⟨(some 40), none, .bin .sub (.t 37) (.t 39)⟩,
      ⟨(some 41), none, .bin .mul (.t 35) (.t 40)⟩,
      ⟨(some 42), none, .bin .sub (.t 30) (.t 41)⟩,
      ⟨(some 6), none, .mv (.t 42)⟩])
    .ret)))
def planar_Cross.r : List Rr := [.tmp 6]
abbrev planar_Cross.n : Nat := 43
def planar_Valid.c : C :=
 (.seq
  (.reg [
    ⟨(some 1), none, .box (.t 0)⟩,
    ⟨(some 2), none, .mv (.c (.b false))⟩])
  (.seq
   (.reg [
     ⟨(some 3), none, .fa 0 (.t 1)⟩,
     ⟨(some 4), none, .ld none (.t 3)⟩,
     ⟨(some 5), none, .bin .geq (.t 4) (.c (.i .i64 (-16777216)))⟩,
     ⟨(some 6), none, .mv (.t 5)⟩,
     ⟨(some 7), (some (6, true)), .fa 0 (.t 1)⟩,
     ⟨(some 8), (some (6, true)), .ld none (.t 7)⟩,
     ⟨(some 9), (some (6, true)), .bin .leq (.t 8) (.c (.i .i64 16777216))⟩,
     ⟨(some 10), none, .pick (.t 6) (.t 9) (.c (.b false))⟩,
     ⟨(some 11), none, .mv (.t 10)⟩,
     ⟨(some 12), (some (11, true)), .fa 1 (.t 1)⟩,
     ⟨(some 13), (some (11, true)), .ld none (.t 12)⟩,
     ⟨(some 14), (some (11, true)), .bin .geq (.t 13) (.c (.i .i64 (-16777216)))⟩,
     ⟨(some 15), none, .pick (.t 11) (.t 14) (.c (.b false))⟩,
     ⟨(some 16), none, .mv (.t 15)⟩,
     ⟨(some 17), (some (16, true)), .fa 1 (.t 1)⟩,
     ⟨(some 18), (some (16, true)), .ld none (.t 17)⟩,
     ⟨(some 19), (some (16, true)), .bin .leq (.t 18) (.c (.i .i64 16777216))⟩,
     ⟨(some 20), none, .pick (.t 16) (.t 19) (.c (.b false))⟩,
     ⟨(some 2), none, .mv (.t 20)⟩])
   .ret))
def planar_Valid.r : List Rr := [.tmp 2]
abbrev planar_Valid.n : Nat := 21
def vec_Det.c (vec_small vec_Cross vec_Dot : FuncId) : C :=
 (.seq
  (.reg [
    ⟨(some 3), none, .box (.t 0)⟩,
    ⟨(some 4), none, .box (.t 1)⟩,
    ⟨(some 5), none, .box (.t 2)⟩,
    ⟨(some 6), none, .mv (.c (.i .i64 0))⟩])
  (.seq
   (.seq
    (.reg [
      ⟨(some 7), none, .ld (some 3) (.t 4)⟩,
      ⟨(some 8), none, .call vec_small [(.t 7)]⟩,
      ⟨(some 9), none, .un .not (.t 8)⟩,
      ⟨(some 10), none, .mv (.t 9)⟩,
      ⟨(some 11), (some (10, false)), .ld (some 3) (.t 5)⟩,
      ⟨(some 12), (some (10, false)), .call vec_small [(.t 11)]⟩,
      ⟨(some 13), (some (10, false)), .un .not (.t 12)⟩,
      ⟨(some 14), none, .pick (.t 10) (.c (.b true)) (.t 13)⟩])
    (.ite (.t 14)
     (.seq
      (.reg [
        ⟨(some 6), none, .mv (.c (.i .i64 0))⟩])
      .ret)
     .skip))
   (.seq
    (.drw [
      ⟨(some 15), none, .ld (some 3) (.t 3)⟩,
      ⟨(some 16), none, .ld (some 3) (.t 4)⟩,
      ⟨(some 17), none, .ld (some 3) (.t 5)⟩,
      ⟨(some 18), none, .call vec_Cross [(.t 16), (.t 17)]⟩,
      ⟨(some 19), none, .call vec_Dot [(.t 15), (.t 18)]⟩,
      ⟨(some 6), none, .mv (.t 19)⟩] [[], [], [], [0], [], []])
    .ret)))
def vec_Det.r : List Rr := [.tmp 6]
abbrev vec_Det.n : Nat := 20
def vec_small.c (vec_within : FuncId) : C :=
 (.seq
  (.reg [
    ⟨(some 1), none, .box (.t 0)⟩,
    ⟨(some 2), none, .mv (.c (.b false))⟩])
  (.seq
   (.reg [
     ⟨(some 3), none, .ld (some 3) (.t 1)⟩,
     ⟨(some 4), none, .call vec_within [(.t 3), (.c (.i .i64 131072))]⟩,
     ⟨(some 2), none, .mv (.t 4)⟩])
   .ret))
def vec_small.r : List Rr := [.tmp 2]
abbrev vec_small.n : Nat := 5
def vec_Dot.c (vec_small vec_within : FuncId) : C :=
 (.seq
  (.reg [
    ⟨(some 2), none, .box (.t 0)⟩,
    ⟨(some 3), none, .box (.t 1)⟩,
    ⟨(some 4), none, .mv (.c (.i .i64 0))⟩])
  (.seq
   (.seq
    (.reg [
      ⟨(some 5), none, .ld (some 3) (.t 2)⟩,
      ⟨(some 6), none, .call vec_small [(.t 5)]⟩,
      ⟨(some 7), none, .un .not (.t 6)⟩,
      ⟨(some 8), none, .mv (.t 7)⟩,
      ⟨(some 9), (some (8, false)), .ld (some 3) (.t 3)⟩,
      ⟨(some 10), (some (8, false)), .call vec_within [(.t 9), (.c (.i .i64 1099511627776))]⟩,
      ⟨(some 11), (some (8, false)), .un .not (.t 10)⟩,
      ⟨(some 12), none, .pick (.t 8) (.c (.b true)) (.t 11)⟩])
    (.ite (.t 12)
     (.seq
      (.reg [
        ⟨(some 4), none, .mv (.c (.i .i64 0))⟩])
      .ret)
     .skip))
   (.seq
    (.reg [
      ⟨(some 13), none, .fa 0 (.t 2)⟩,
      ⟨(some 14), none, .ld none (.t 13)⟩,
      ⟨(some 15), none, .fa 0 (.t 3)⟩,
      ⟨(some 16), none, .ld none (.t 15)⟩,
      ⟨(some 17), none, .bin .mul (.t 14) (.t 16)⟩,
      ⟨(some 18), none, .fa 1 (.t 2)⟩,
      ⟨(some 19), none, .ld none (.t 18)⟩,
      ⟨(some 20), none, .fa 1 (.t 3)⟩,
      ⟨(some 21), none, .ld none (.t 20)⟩,
      ⟨(some 22), none, .bin .mul (.t 19) (.t 21)⟩,
      ⟨(some 23), none, .bin .add (.t 17) (.t 22)⟩,
      ⟨(some 24), none, .fa 2 (.t 2)⟩,
      ⟨(some 25), none, .ld none (.t 24)⟩,
      ⟨(some 26), none, .fa 2 (.t 3)⟩,
      ⟨(some 27), none, .ld none (.t 26)⟩,
      ⟨(some 28), none, .bin .mul (.t 25) (.t 27)⟩,
      ⟨(some 29), none, .bin .add (.t 23) (.t 28)⟩,
      ⟨(some 4), none, .mv (.t 29)⟩])
    .ret)))
def vec_Dot.r : List Rr := [.tmp 4]
abbrev vec_Dot.n : Nat := 30
def vec_Cross.c (vec_small : FuncId) : C :=
 (.seq
  (.reg [
    ⟨(some 2), none, .box (.t 0)⟩,
    ⟨(some 3), none, .box (.t 1)⟩,
    ⟨(some 4), none, .alloc [(.i .i64 0), (.i .i64 0), (.i .i64 0)]⟩])
  (.seq
   (.seq
    (.reg [
      ⟨(some 5), none, .ld (some 3) (.t 2)⟩,
      ⟨(some 6), none, .call vec_small [(.t 5)]⟩,
      ⟨(some 7), none, .un .not (.t 6)⟩,
      ⟨(some 8), none, .mv (.t 7)⟩,
      ⟨(some 9), (some (8, false)), .ld (some 3) (.t 3)⟩,
      ⟨(some 10), (some (8, false)), .call vec_small [(.t 9)]⟩,
      ⟨(some 11), (some (8, false)), .un .not (.t 10)⟩,
      ⟨(some 12), none, .pick (.t 8) (.c (.b true)) (.t 11)⟩])
    (.ite (.t 12)
     (.seq
      (.reg [
        ⟨(some 13), none, .build [(.i .i64 0), (.i .i64 0), (.i .i64 0)] []⟩,
        ⟨none, none, .st 3 (.t 4) (.t 13)⟩])
      .ret)
     .skip))
   (.seq
    (.reg [
      ⟨(some 14), none, .fa 1 (.t 2)⟩,
      ⟨(some 15), none, .ld none (.t 14)⟩,
      ⟨(some 16), none, .fa 2 (.t 3)⟩,
      ⟨(some 17), none, .ld none (.t 16)⟩,
      ⟨(some 18), none, .bin .mul (.t 15) (.t 17)⟩,
      ⟨(some 19), none, .fa 2 (.t 2)⟩,
      ⟨(some 20), none, .ld none (.t 19)⟩,
      ⟨(some 21), none, .fa 1 (.t 3)⟩,
      ⟨(some 22), none, .ld none (.t 21)⟩,
      ⟨(some 23), none, .bin .mul (.t 20) (.t 22)⟩,
      ⟨(some 24), none, .bin .sub (.t 18) (.t 23)⟩,
      ⟨(some 25), none, .fa 2 (.t 2)⟩,
      ⟨(some 26), none, .ld none (.t 25)⟩,
      ⟨(some 27), none, .fa 0 (.t 3)⟩,
      ⟨(some 28), none, .ld none (.t 27)⟩,
      ⟨(some 29), none, .bin .mul (.t 26) (.t 28)⟩,
      ⟨(some 30), none, .fa 0 (.t 2)⟩,
      ⟨(some 31), none, .ld none (.t 30)⟩,
      ⟨(some 32), none, .fa 2 (.t 3)⟩,
      ⟨(some 33), none, .ld none (.t 32)⟩,
      ⟨(some 34), none, .bin .mul (.t 31) (.t 33)⟩,
      ⟨(some 35), none, .bin .sub (.t 29) (.t 34)⟩,
      ⟨(some 36), none, .fa 0 (.t 2)⟩,
      ⟨(some 37), none, .ld none (.t 36)⟩,
      ⟨(some 38), none, .fa 1 (.t 3)⟩,
      ⟨(some 39), none, .ld none (.t 38)⟩,
      ⟨(some 40), none, .bin .mul (.t 37) (.t 39)⟩,
      ⟨(some 41), none, .fa 1 (.t 2)⟩,
      ⟨(some 42), none, .ld none (.t 41)⟩,
      ⟨(some 43), none, .fa 0 (.t 3)⟩,
      ⟨(some 44), none, .ld none (.t 43)⟩,
      ⟨(some 45), none, .bin .mul (.t 42) (.t 44)⟩,
      ⟨(some 46), none, .bin .sub (.t 40) (.t 45)⟩,
      ⟨(some 47), none, .build [(.i .i64 0), (.i .i64 0), (.i .i64 0)] [(0, 1, (.t 24)), (1, 1, (.t 35)), (2, 1, (.t 46))]⟩,
      ⟨none, none, .st 3 (.t 4) (.t 47)⟩])
    .ret)))
def vec_Cross.r : List Rr := [.cell 4 (some 3)]
abbrev vec_Cross.n : Nat := 48
def mesh_Volume6.c (mesh_Check vec_Det : FuncId) : C :=
 (.seq
  (.reg [
    ⟨(some 1), none, .box (.t 0)⟩,
    ⟨(some 2), none, .mv (.c (.i .i64 0))⟩])
  (.seq
   (.seq
    (.reg [
      ⟨(some 6), none, .ld (some 2) (.t 1)⟩,
      ⟨(some 7), none, .call mesh_Check [(.t 6)]⟩,
      ⟨(some 8), none, .bin .neq (.t 7) (.c (.i .i64 0))⟩])
    (.ite (.t 8)
     (.seq
      (.reg [
        ⟨(some 2), none, .mv (.c (.i .i64 0))⟩])
      .ret)
     .skip))
   (.seq
    (.reg [
      ⟨(some 3), none, .mv (.c (.i .i64 0))⟩])
    (.seq
     (.seq
      (.reg [
        ⟨(some 9), none, .fa 1 (.t 1)⟩,
        ⟨(some 10), none, .ld none (.t 9)⟩,
        ⟨(some 11), none, .len 0 (.t 10)⟩,
        ⟨(some 12), none, .mv (.c (.i .i64 0))⟩])
      (.blk 0
       (.loop
        (.seq
         (.reg [
           ⟨(some 13), none, .bin .lss (.t 12) (.t 11)⟩])
         (.seq
          (.ite (.t 13)
           .skip
           (.exit 0))
          (.seq
           (.blk 1
            (.seq
             (.reg [
               ⟨(some 14), none, .ia 3 (.t 10) (.t 12)⟩,
               ⟨(some 15), none, .ld (some 3) (.t 14)⟩,
               ⟨(some 5), none, .alloc [(.i .i64 0), (.i .i64 0), (.i .i64 0)]⟩,
               ⟨none, none, .st 3 (.t 5) (.t 15)⟩])
             (.drw [
               ⟨(some 16), none, .mv (.t 3)⟩,
               ⟨(some 17), none, .fa 0 (.t 1)⟩,
               ⟨(some 18), none, .ld none (.t 17)⟩,
               ⟨(some 19), none, .fa 0 (.t 5)⟩,
               ⟨(some 20), none, .ld none (.t 19)⟩,
               ⟨(some 21), none, .ia 3 (.t 18) (.t 20)⟩,
               ⟨(some 22), none, .ld (some 3) (.t 21)⟩,
               ⟨(some 23), none, .fa 0 (.t 1)⟩,
               ⟨(some 24), none, .ld none (.t 23)⟩,
               ⟨(some 25), none, .fa 1 (.t 5)⟩,
               ⟨(some 26), none, .ld none (.t 25)⟩,
               ⟨(some 27), none, .ia 3 (.t 24) (.t 26)⟩,
               ⟨(some 28), none, .ld (some 3) (.t 27)⟩,
               ⟨(some 29), none, .fa 0 (.t 1)⟩,
               ⟨(some 30), none, .ld none (.t 29)⟩,
               ⟨(some 31), none, .fa 2 (.t 5)⟩,
               ⟨(some 32), none, .ld none (.t 31)⟩,
               ⟨(some 33), none, .ia 3 (.t 30) (.t 32)⟩,
               ⟨(some 34), none, .ld (some 3) (.t 33)⟩,
               ⟨(some 35), none, .call vec_Det [(.t 22), (.t 28), (.t 34)]⟩,
               ⟨(some 36), none, .bin .add (.t 16) (.t 35)⟩,
               ⟨(some 3), none, .mv (.t 36)⟩] [])))
           (.reg [
             ⟨(some 37), none, .bin .add (.t 12) (.c (.i .i64 1))⟩,
             ⟨(some 12), none, .mv (.t 37)⟩])))))))
     (.seq
      (.reg [
        ⟨(some 38), none, .mv (.t 3)⟩,
        ⟨(some 2), none, .mv (.t 38)⟩])
      .ret)))))
def mesh_Volume6.r : List Rr := [.tmp 2]
abbrev mesh_Volume6.n : Nat := 39
end Go.Abs
