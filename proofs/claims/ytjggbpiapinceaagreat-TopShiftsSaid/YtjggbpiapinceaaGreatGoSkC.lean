/- Part of the library on which the proof stands: an abstract machine, its values and its soundness against the model; or what functions of the program do to such values. -/
import Derived.Test.YtjggbpiapinceaaGreatGoUpC
import Derived.Test.YtjggbpiapinceaaGreatGoShp
import Derived.Test.YtjggbpiapinceaaGreatGoBl
import Derived.Test.YtjggbpiapinceaaGreatGoSkJ
import Derived.Test.YtjggbpiapinceaaGreatGoRevC
set_option linter.unusedVariables false
set_option linter.unusedSimpArgs false
set_option maxHeartbeats 8000000
set_option maxRecDepth 20000
namespace Go.Abs
def L0u.c (L0x:FuncId):C :=(.seq (.reg [Au 1 (.box (.t 0)),Au 2 (.alloc [(.i .i64 0),(.i .i64 0)]),Au 3 (.alloc [(.i .i64 0),(.i .i64 0)]),Ab 4 false]) (.seq (.seq (.reg [Ag 9 1 1,Au 10 (.call L0x [.t 9]),Au 11 (.un .not (.t 10)),Am 12 11,Aw 13 12 (.fa 0 (.t 1)),Aw 14 12 (.ld none (.t 13)),Aw 15 12 (.len 0 (.t 14)),Aw 16 12 (.bin .eql (.t 15) (.c (.i .i64 0))),Ao 17 12 16]) (.ite (.t 17) (.seq (.reg [Au 18 (.build [(.i .i64 0),(.i .i64 0)] []),Au 19 (.build [(.i .i64 0),(.i .i64 0)] []),As 2 2 18,As 2 3 19,Ab 4 false]) .ret) .skip)) (.seq (.reg [Af 20 0 1,Al 21 20,Au 22 (.ia 2 (.t 21) (.c (.i .i64 0))),
 Af 23 0 22,Al 24 23,Au 25 (.build [(.i .i64 0),(.i .i64 0)] [(0,1,(.c (.i .i64 4096))),(1,1,(.t 24))]),Au 5 (.alloc [(.i .i64 0),(.i .i64 0)]),As 2 5 25]) (.seq (.reg [Af 26 0 1,Al 27 26,Af 28 0 1,Al 29 28,An 30 0 29,Ak .sub 31 30 1,Ai 32 2 27 31,Af 33 0 32,Al 34 33,Au 35 (.build [(.i .i64 0),(.i .i64 0)] [(0,1,(.c (.i .i64 (-4096)))),(1,1,(.t 34))]),Au 6 (.alloc [(.i .i64 0),(.i .i64 0)]),As 2 6 35]) (.seq (.seq (.reg [Ac 7 0]) (.blk 0 (.loop (.seq (.seq (.reg [Am 36 7,Af 37 0 1,Al 38 37,An 39 0 38,Aj .lss 40 36 39]) (.ite (.t 40) .skip (.exit 0))) (.seq (.blk 1 (.seq (.reg [Af 43 0 1,Al 44 43,
 Am 45 7,Ai 46 2 44 45,Af 47 1 46,Al 48 47,Am 8 48]) (.seq (.drw [Af 49 0 5,Al 50 49,Am 51 8,Au 52 (.ia 2 (.t 51) (.c (.i .i64 0))),Af 53 0 52,Al 54 53,Au 55 (.mn [.t 50,.t 54]),Af 56 0 5,As 1 56 55] []) (.drw [Af 57 0 6,Al 58 57,Am 59 8,Am 60 8,An 61 0 60,Ak .sub 62 61 1,Ai 63 2 59 62,Af 64 1 63,Al 65 64,Ak .sub 66 65 1,Au 67 (.mx [.t 58,.t 66]),Af 68 0 6,As 1 68 67] [])))) (.reg [Am 41 7,Ad 42 41 1,Am 7 42])))))) (.seq (.drw [Ag 69 2 5,Ag 70 2 6,As 2 2 69,As 2 3 70,Ab 4 true] [[],[],[1],[],[]]) .ret))))))
def L0u.r:List Rr:=[.cell 2 (some 2),.cell 3 (some 2),.tmp 4]
abbrev L0u.n:Nat:=71
def L0w.c (L0x L0u:FuncId):C :=(.seq (.reg [Au 3 (.box (.t 0)),Au 6 (.alloc [.nil]),Ac 7 0]) (.seq (.seq (.reg [Ag 15 1 3,Au 16 (.call L0x [.t 15]),Au 17 (.un .not (.t 16))]) (.ite (.t 17) (.seq (.reg [Au 18 (.build [.nil] []),As 1 6 18,Ac 7 1]) .ret) .skip)) (.seq (.reg [Ag 20 1 3,Au 21 (.call L0u [.t 20]),Am 19 21,Ax1 22 0 19,Ax1 23 1 19,Ax1 24 2 19,Au 8 (.alloc [(.i .i64 0),(.i .i64 0)]),Au 9 (.alloc [(.i .i64 0),(.i .i64 0)]),As 2 8 22,As 2 9 23,Am 10 24]) (.seq (.seq (.reg [Am 25 10,Au 26 (.un .not (.t 25))]) (.ite (.t 26) (.seq (.reg [Au 27 (.build [.nil] []),As 1 6 27,Ac 7 0]) .ret) .skip))
 (.seq (.seq (.reg [Am 28 1,Af 29 0 8,Al 30 29,Au 31 (.bin .sub (.c (.i .i64 (-4096))) (.t 30)),Aj .lss 32 28 31,Am 33 32,Aw 34 33 (.mv (.t 1)),Aw 35 33 (.fa 0 (.t 9)),Aw 36 33 (.ld none (.t 35)),Aw 37 33 (.bin .sub (.c (.i .i64 4095)) (.t 36)),Aw 38 33 (.bin .gtr (.t 34) (.t 37)),Ao 39 33 38,Am 40 39,Aw 41 40 (.mv (.t 2)),Aw 42 40 (.fa 1 (.t 8)),Aw 43 40 (.ld none (.t 42)),Aw 44 40 (.bin .sub (.c (.i .i64 (-4096))) (.t 43)),Aw 45 40 (.bin .lss (.t 41) (.t 44)),Ao 46 40 45,Am 47 46,Aw 48 47 (.mv (.t 2)),Aw 49 47 (.fa 1 (.t 9)),Aw 50 47 (.ld none (.t 49)),Aw 51 47 (.bin .sub (.c (.i .i64 4095)) (.t 50)),
 Aw 52 47 (.bin .gtr (.t 48) (.t 51)),Ao 53 47 52]) (.ite (.t 53) (.seq (.reg [Au 54 (.build [.nil] []),As 1 6 54,Ac 7 8]) .ret) .skip)) (.seq (.reg [Au 11 (.alloc [.nil])]) (.seq (.seq (.reg [Ac 12 0]) (.blk 0 (.loop (.seq (.seq (.reg [Am 55 12,Af 56 0 3,Al 57 56,An 58 0 57,Aj .lss 59 55 58]) (.ite (.t 59) .skip (.exit 0))) (.seq (.blk 1 (.seq (.reg [Af 62 0 3,Al 63 62,Am 64 12,Ai 65 2 63 64,Af 66 0 65,Al 67 66,Am 68 2,Aj .add 69 67 68,Au 70 (.build [(.i .i64 0),.nil] [(0,1,(.t 69))]),Au 13 (.alloc [(.i .i64 0),.nil]),As 2 13 70]) (.seq (.seq (.reg [Ac 14 0]) (.blk 2 (.loop (.seq (.seq (.reg [
 Am 71 14,Af 72 0 3,Al 73 72,Am 74 12,Ai 75 2 73 74,Af 76 1 75,Al 77 76,An 78 0 77,Aj .lss 79 71 78]) (.ite (.t 79) .skip (.exit 2))) (.seq (.blk 3 (.drw [Af 82 1 13,Al 83 82,Af 84 0 3,Al 85 84,Am 86 12,Ai 87 2 85 86,Af 88 1 87,Al 89 88,Am 90 14,Ai 91 2 89 90,Af 92 0 91,Al 93 92,Am 94 1,Aj .add 95 93 94,Af 96 0 3,Al 97 96,Am 98 12,Ai 99 2 97 98,Af 100 1 99,Al 101 100,Am 102 14,Ai 103 2 101 102,Af 104 1 103,Al 105 104,Am 106 1,Aj .add 107 105 106,Au 108 (.build [(.i .i64 0),(.i .i64 0)] [(0,1,(.t 95)),(1,1,(.t 107))]),Au 109 (.bsi 2 1 [(.i .i64 0),(.i .i64 0)] [(0,(.t 108))]),Au 110 (.app 2 16 (.t 83) (.t 109)),
 Af 111 1 13,As 1 111 110] [])) (.reg [Am 80 14,Ad 81 80 1,Am 14 81])))))) (.reg [Af 112 0 11,Al 113 112,Ag 114 2 13,Au 115 (.bso 2 1 [(.i .i64 0),.nil] [(0,(.t 114))]),Au 116 (.app 2 32 (.t 113) (.t 115)),Af 117 0 11,As 1 117 116])))) (.reg [Am 60 12,Ad 61 60 1,Am 12 61])))))) (.seq (.reg [Ag 118 1 11,As 1 6 118,Ac 7 0]) .ret))))))))
def L0w.r:List Rr:=[.cell 6 (some 1),.tmp 7]
abbrev L0w.n:Nat:=119
def L03.c:C :=(.seq (.reg [Au 6 (.alloc [.nil])]) (.seq (.reg [Au 9 (.build [.nil] []),Au 7 (.alloc [.nil]),As 1 7 9]) (.seq (.seq (.reg [Ac 8 0]) (.blk 0 (.loop (.seq (.seq (.reg [Am 10 8,Am 11 2,Aj .lss 12 10 11]) (.ite (.t 12) .skip (.exit 0))) (.seq (.blk 1 (.reg [Af 15 0 7,Al 16 15,Am 17 1,Am 18 8,Aj .add 19 17 18,Am 20 0,Am 21 0,Am 22 2,Aj .add 23 21 22,Au 24 (.build [(.i .i64 0),(.i .i64 0)] [(0,1,(.t 20)),(1,1,(.t 23))]),Au 25 (.bso 2 1 [(.i .i64 0),(.i .i64 0)] [(0,(.t 24))]),Au 26 (.build [(.i .i64 0),.nil] [(0,1,(.t 19)),(1,1,(.t 25))]),Au 27 (.bso 2 1 [(.i .i64 0),.nil] [(0,(.t 26))]),
 Au 28 (.app 2 32 (.t 16) (.t 27)),Af 29 0 7,As 1 29 28])) (.reg [Am 13 8,Ad 14 13 1,Am 8 14])))))) (.seq (.reg [Ag 30 1 7,As 1 6 30]) .ret))))
def L03.r:List Rr:=[.cell 6 (some 1)]
abbrev L03.n:Nat:=31
def L01.c (L19 L1k L03 L0v L0z:FuncId):C :=(.seq (.reg [Ab 0 false]) (.seq (.reg [Au 6 (.build [(.i .i64 0),(.i .i64 0),(.i .i64 0)] [(0,1,(.c (.i .i64 40))),(1,1,(.c (.i .i64 80)))]),Au 7 (.build [(.i .i64 0),(.i .i64 0),(.i .i64 0)] [(0,1,(.c (.i .i64 120))),(1,1,(.c (.i .i64 120))),(2,1,(.c (.i .i64 20)))]),Au 8 (.call L19 [.t 6,.t 7]),Am 5 8,Ax1 9 0 5,Ax1 10 1 5,Au 1 (.alloc [.nil,.nil]),As 2 1 9,Am 2 10]) (.seq (.reg [Ag 12 2 1,Au 13 (.call L1k [.t 12,(.c (.i .i64 10)),(.c (.i .i64 40))]),Am 11 13,Ax1 14 0 11,Ax1 15 1 11,Au 3 (.alloc [.nil]),As 1 3 14,Am 4 15]) (.seq (.drw [Am 16 2,Ak .eql 17 16 0,
 Am 18 17,Av 19 18 (.mv (.t 4)),Av 20 18 (.bin .eql (.t 19) (.c (.i .i64 0))),Ap 21 18 20,Am 22 21,Av 23 22 (.ld (some 1) (.t 3)),Av 24 22 (.call L03 [(.c (.i .i64 1)),(.c (.i .i64 2)),(.c (.i .i64 3))]),Av 25 22 (.call L0v [.t 23,.t 24]),Ap 26 22 25,Am 27 26,Av 28 27 (.ld (some 2) (.t 1)),Av 29 27 (.call L0z [.t 28]),Av 30 27 (.bin .eql (.t 29) (.c (.i .i64 0))),Ap 31 27 30,Am 0 31] [[],[],[],[],[],[],[],[],[7],[],[],[],[],[],[],[],[]]) .ret))))
def L01.r:List Rr:=[.tmp 0]
abbrev L01.n:Nat:=32
def L02.c:C :=(.seq (.reg [Au 1 (.box (.t 0)),Ab 2 false]) (.seq (.reg [Af 3 0 1,Al 4 3,An 5 0 4,Ak .leq 6 5 60,Am 7 6,Av 8 7 (.fa 1 (.t 1)),Av 9 7 (.ld none (.t 8)),Av 10 7 (.len 0 (.t 9)),Av 11 7 (.bin .leq (.t 10) (.c (.i .i64 60))),Ap 12 7 11,Am 2 12]) .ret))
def L02.r:List Rr:=[.tmp 2]
abbrev L02.n:Nat:=13
def L00.c (L02 L01 L1a L1k L0w L0v:FuncId):C :=(.seq (.reg [Au 3 (.box (.t 0)),Au 4 (.box (.t 1)),Au 5 (.box (.t 2)),Ab 6 false]) (.seq (.drw [Au 17 (.iaa 2 1 (.t 5) (.c (.i .i64 0))),Al 18 17,Au 19 (.iaa 2 1 (.t 5) (.c (.i .i64 1))),Al 20 19,Am 7 18,Am 8 20] []) (.seq (.seq (.reg [Ag 21 2 3,Au 22 (.call L02 [.t 21]),Au 23 (.un .not (.t 22)),Am 24 23,Aw 25 24 (.mv (.t 7)),Aw 26 24 (.bin .lss (.t 25) (.c (.i .i64 (-65536)))),Ao 27 24 26,Am 28 27,Aw 29 28 (.mv (.t 7)),Aw 30 28 (.bin .gtr (.t 29) (.c (.i .i64 65536))),Ao 31 28 30,Am 32 31,Aw 33 32 (.mv (.t 8)),Aw 34 32 (.bin .lss (.t 33) (.c (.i .i64 32))),
 Ao 35 32 34,Am 36 35,Aw 37 36 (.mv (.t 8)),Aw 38 36 (.bin .gtr (.t 37) (.c (.i .i64 1024))),Ao 39 36 38,Am 40 39,Aw 41 40 (.mv (.t 8)),Aw 42 40 (.bin .rem (.t 41) (.c (.i .i64 2))),Aw 43 40 (.bin .neq (.t 42) (.c (.i .i64 0))),Ao 44 40 43,Am 45 44,Aw 46 45 (.fa 0 (.t 4)),Aw 47 45 (.ld none (.t 46)),Aw 48 45 (.bin .lss (.t 47) (.c (.i .i64 (-100)))),Ao 49 45 48,Am 50 49,Aw 51 50 (.fa 0 (.t 4)),Aw 52 50 (.ld none (.t 51)),Aw 53 50 (.bin .gtr (.t 52) (.c (.i .i64 100))),Ao 54 50 53,Am 55 54,Aw 56 55 (.fa 1 (.t 4)),Aw 57 55 (.ld none (.t 56)),Aw 58 55 (.bin .lss (.t 57) (.c (.i .i64 (-100)))),Ao 59 55 58,
 Am 60 59,Aw 61 60 (.fa 1 (.t 4)),Aw 62 60 (.ld none (.t 61)),Aw 63 60 (.bin .gtr (.t 62) (.c (.i .i64 100))),Ao 64 60 63,Am 65 64,Aw 66 65 (.fa 2 (.t 4)),Aw 67 65 (.ld none (.t 66)),Aw 68 65 (.bin .lss (.t 67) (.c (.i .i64 (-1000)))),Ao 69 65 68,Am 70 69,Aw 71 70 (.fa 2 (.t 4)),Aw 72 70 (.ld none (.t 71)),Aw 73 70 (.bin .gtr (.t 72) (.c (.i .i64 1000))),Ao 74 70 73,Am 75 74,Aw 76 75 (.mv (.t 7)),Aw 77 75 (.fa 2 (.t 4)),Aw 78 75 (.ld none (.t 77)),Aw 79 75 (.bin .add (.t 76) (.t 78)),Aw 80 75 (.bin .gtr (.t 79) (.c (.i .i64 65536))),Ao 81 75 80,Am 82 81,Aw 83 82 (.mv (.t 7)),Aw 84 82 (.fa 2 (.t 4)),
 Aw 85 82 (.ld none (.t 84)),Aw 86 82 (.bin .add (.t 83) (.t 85)),Aw 87 82 (.bin .lss (.t 86) (.c (.i .i64 (-65536)))),Ao 88 82 87]) (.ite (.t 88) (.seq (.reg [Au 89 (.call L01 []),Am 6 89]) .ret) .skip)) (.seq (.reg [Ag 91 2 3,Af 92 0 4,Al 93 92,Am 94 8,Aj .mul 95 93 94,Af 96 1 4,Al 97 96,Am 98 8,Aj .mul 99 97 98,Af 100 2 4,Al 101 100,Au 102 (.build [(.i .i64 0),(.i .i64 0),(.i .i64 0)] [(0,1,(.t 95)),(1,1,(.t 99)),(2,1,(.t 101))]),Au 103 (.call L1a [.t 91,.t 102]),Am 90 103,Ax1 104 0 90,Ax1 105 1 90,Au 9 (.alloc [.nil,.nil]),As 2 9 104,Am 10 105]) (.seq (.seq (.reg [Am 106 10,Ak .neq 107 106 0])
 (.ite (.t 107) (.seq (.reg [Au 108 (.call L01 []),Am 6 108]) .ret) .skip)) (.seq (.reg [Ag 110 2 3,Am 111 7,Am 112 8,Au 113 (.call L1k [.t 110,.t 111,.t 112]),Am 109 113,Ax1 114 0 109,Ax1 115 1 109,Au 11 (.alloc [.nil]),As 1 11 114,Am 12 115]) (.seq (.reg [Ag 117 2 9,Am 118 7,Af 119 2 4,Al 120 119,Aj .add 121 118 120,Am 122 8,Au 123 (.call L1k [.t 117,.t 121,.t 122]),Am 116 123,Ax1 124 0 116,Ax1 125 1 116,Au 13 (.alloc [.nil]),As 1 13 124,Am 14 125]) (.seq (.seq (.reg [Am 126 12,Ak .neq 127 126 0]) (.ite (.t 127) (.seq (.reg [Am 128 14,Am 129 12,Aj .eql 130 128 129,Am 131 130,Av 132 131 (.call L01 []),
 Ap 133 131 132,Am 6 133]) .ret) .skip)) (.seq (.reg [Ag 135 1 11,Af 136 0 4,Al 137 136,Af 138 1 4,Al 139 138,Au 140 (.call L0w [.t 135,.t 137,.t 139]),Am 134 140,Ax1 141 0 134,Ax1 142 1 134,Au 15 (.alloc [.nil]),As 1 15 141,Am 16 142]) (.seq (.reg [Am 143 14,Ak .eql 144 143 0,Am 145 144,Av 146 145 (.mv (.t 16)),Av 147 145 (.bin .eql (.t 146) (.c (.i .i64 0))),Ap 148 145 147,Am 149 148,Av 150 149 (.ld (some 1) (.t 13)),Av 151 149 (.ld (some 1) (.t 15)),Av 152 149 (.call L0v [.t 150,.t 151]),Ap 153 149 152,Am 154 153,Av 155 154 (.call L01 []),Ap 156 154 155,Am 6 156]) .ret))))))))))
def L00.r:List Rr:=[.tmp 6]
abbrev L00.n:Nat:=157
def L0y.c:C :=(.seq (.reg [Ab 2 false]) (.seq (.seq (.reg [Ac 3 0]) (.blk 0 (.loop (.seq (.seq (.reg [Am 4 3,Am 5 0,An 6 0 5,Aj .lss 7 4 6]) (.ite (.t 7) .skip (.exit 0))) (.seq (.blk 1 (.seq (.drw [Am 10 0,Am 11 3,Ai 12 2 10 11,Af 13 0 12,Al 14 13,Ak .lss 15 14 (-4096),Am 16 15,Aw 17 16 (.mv (.t 0)),Aw 18 16 (.mv (.t 3)),Aw 19 16 (.ia 2 (.t 17) (.t 18)),Aw 20 16 (.fa 0 (.t 19)),Aw 21 16 (.ld none (.t 20)),Aw 22 16 (.mv (.t 0)),Aw 23 16 (.mv (.t 3)),Aw 24 16 (.ia 2 (.t 22) (.t 23)),Aw 25 16 (.fa 1 (.t 24)),Aw 26 16 (.ld none (.t 25)),Aw 27 16 (.bin .geq (.t 21) (.t 26)),Ao 28 16 27,Am 29 28,Aw 30 29 (.mv (.t 0)),
 Aw 31 29 (.mv (.t 3)),Aw 32 29 (.ia 2 (.t 30) (.t 31)),Aw 33 29 (.fa 1 (.t 32)),Aw 34 29 (.ld none (.t 33)),Aw 35 29 (.bin .gtr (.t 34) (.c (.i .i64 4096))),Ao 36 29 35,Am 37 36,Aw 38 37 (.mv (.t 3)),Aw 39 37 (.bin .gtr (.t 38) (.c (.i .i64 0))),Aw 40 37 (.mv (.t 39)),Av 41 40 (.mv (.t 0)),Av 42 40 (.mv (.t 3)),Av 43 40 (.ia 2 (.t 41) (.t 42)),Av 44 40 (.fa 0 (.t 43)),Av 45 40 (.ld none (.t 44)),Av 46 40 (.mv (.t 0)),Av 47 40 (.mv (.t 3)),Av 48 40 (.bin .sub (.t 47) (.c (.i .i64 1))),Av 49 40 (.ia 2 (.t 46) (.t 48)),Av 50 40 (.fa 1 (.t 49)),Av 51 40 (.ld none (.t 50)),Av 52 40 (.bin .leq (.t 45) (.t 51)),
 Aw 53 37 (.pick (.t 40) (.t 52) (.c (.b false))),Ao 54 37 53] []) (.ite (.t 54) (.seq (.reg [Ab 2 false]) .ret) .skip))) (.reg [Am 8 3,Ad 9 8 1,Am 3 9])))))) (.seq (.reg [Am 55 0,An 56 0 55,Ak .gtr 57 56 0,Am 2 57]) .ret)))
def L0y.r:List Rr:=[.tmp 2]
abbrev L0y.n:Nat:=58
def L0x.c (L0y:FuncId):C :=(.seq (.reg [Au 1 (.box (.t 0)),Ab 2 false]) (.seq (.seq (.reg [Ac 3 0]) (.blk 0 (.loop (.seq (.seq (.reg [Am 5 3,Af 6 0 1,Al 7 6,An 8 0 7,Aj .lss 9 5 8]) (.ite (.t 9) .skip (.exit 0))) (.seq (.blk 1 (.seq (.reg [Af 12 0 1,Al 13 12,Am 14 3,Ai 15 2 13 14,Af 16 0 15,Al 17 16,Am 4 17]) (.seq (.reg [Am 18 4,Ak .lss 19 18 (-4096),Am 20 19,Aw 21 20 (.mv (.t 4)),Aw 22 20 (.bin .geq (.t 21) (.c (.i .i64 4096))),Ao 23 20 22,Am 24 23,Aw 25 24 (.mv (.t 3)),Aw 26 24 (.bin .gtr (.t 25) (.c (.i .i64 0))),Aw 27 24 (.mv (.t 26)),Av 28 27 (.mv (.t 4)),Av 29 27 (.fa 0 (.t 1)),Av 30 27 (.ld none (.t 29)),
 Av 31 27 (.mv (.t 3)),Av 32 27 (.bin .sub (.t 31) (.c (.i .i64 1))),Av 33 27 (.ia 2 (.t 30) (.t 32)),Av 34 27 (.fa 0 (.t 33)),Av 35 27 (.ld none (.t 34)),Av 36 27 (.bin .leq (.t 28) (.t 35)),Aw 37 24 (.pick (.t 27) (.t 36) (.c (.b false))),Ao 38 24 37,Am 39 38,Aw 40 39 (.fa 0 (.t 1)),Aw 41 39 (.ld none (.t 40)),Aw 42 39 (.mv (.t 3)),Aw 43 39 (.ia 2 (.t 41) (.t 42)),Aw 44 39 (.fa 1 (.t 43)),Aw 45 39 (.ld none (.t 44)),Aw 46 39 (.call L0y [.t 45]),Aw 47 39 (.un .not (.t 46)),Ao 48 39 47]) (.ite (.t 48) (.seq (.reg [Ab 2 false]) .ret) .skip)))) (.reg [Am 10 3,Ad 11 10 1,Am 3 11])))))) (.seq (.reg [
 Ab 2 true]) .ret)))
def L0x.r:List Rr:=[.tmp 2]
abbrev L0x.n:Nat:=49
def L0v.c:C :=(.seq (.reg [Au 2 (.box (.t 0)),Au 3 (.box (.t 1)),Ab 4 false]) (.seq (.seq (.reg [Af 9 0 2,Al 10 9,An 11 0 10,Af 12 0 3,Al 13 12,An 14 0 13,Aj .neq 15 11 14]) (.ite (.t 15) (.seq (.reg [Ab 4 false]) .ret) .skip)) (.seq (.seq (.reg [Ac 5 0]) (.blk 0 (.loop (.seq (.seq (.reg [Am 16 5,Af 17 0 2,Al 18 17,An 19 0 18,Aj .lss 20 16 19]) (.ite (.t 20) .skip (.exit 0))) (.seq (.blk 1 (.seq (.drw [Af 23 0 2,Al 24 23,Am 25 5,Ai 26 2 24 25,Ag 27 2 26,Af 28 0 3,Al 29 28,Am 30 5,Ai 31 2 29 30,Ag 32 2 31,Au 6 (.alloc [(.i .i64 0),.nil]),Au 7 (.alloc [(.i .i64 0),.nil]),As 2 6 27,As 2 7 32] [[],[],[],[],[],[],[],[],[],[],[],[],[5,6,8,9],[]])
 (.seq (.seq (.reg [Af 33 0 6,Al 34 33,Af 35 0 7,Al 36 35,Aj .neq 37 34 36,Am 38 37,Aw 39 38 (.fa 1 (.t 6)),Aw 40 38 (.ld none (.t 39)),Aw 41 38 (.len 0 (.t 40)),Aw 42 38 (.fa 1 (.t 7)),Aw 43 38 (.ld none (.t 42)),Aw 44 38 (.len 0 (.t 43)),Aw 45 38 (.bin .neq (.t 41) (.t 44)),Ao 46 38 45]) (.ite (.t 46) (.seq (.reg [Ab 4 false]) .ret) .skip)) (.seq (.reg [Ac 8 0]) (.blk 2 (.loop (.seq (.seq (.reg [Am 47 8,Af 48 1 6,Al 49 48,An 50 0 49,Aj .lss 51 47 50]) (.ite (.t 51) .skip (.exit 2))) (.seq (.blk 3 (.seq (.drw [Af 54 1 6,Al 55 54,Am 56 8,Ai 57 2 55 56,Ag 58 2 57,Af 59 1 7,Al 60 59,Am 61 8,Ai 62 2 60 61,
 Ag 63 2 62,Au 64 (.eqa [1,1] true (.t 58) (.t 63))] []) (.ite (.t 64) (.seq (.reg [Ab 4 false]) .ret) .skip))) (.reg [Am 52 8,Ad 53 52 1,Am 8 53]))))))))) (.reg [Am 21 5,Ad 22 21 1,Am 5 22])))))) (.seq (.reg [Ab 4 true]) .ret))))
def L0v.r:List Rr:=[.tmp 4]
abbrev L0v.n:Nat:=65
def Qns (P:Program) (f:FuncId):Prop:=∀l:List Rn,RnsV l->RnI l->l≠[]->CallIs P f [Z5 l] (.b true)
def Q1i (P:Program) (f:FuncId):Prop:=∀g:List Rw,RgV g->RgB g->CallIs P f [rgV g] (.b true)
def rwL (g:List Rw):V:=.l 2 (g.map Rw.cs)
section
variable {P:Program} (hm:P.follows .mixedOrders=true)
include hm
theorem Q3t {f:FuncId} (hf:Qa P f L0y.c L0y.r L0y.n):Qns P f:=by
 intro l hl hb hn
 have hll:=hl.len hb
 refine PureC.is (Q8 hm hf (qh rfl) ?_) rfl
 unfold L0y.c
 simp[go_sem,Z5]
 refine Qj (α:=Nat) (λi=>i<=l.length)
  (λi=>⟨[(0,Z5 l),(3,.i .i64 i)],[]⟩)
  (λi=>l.length-i) 0 (Nat.zero_le _) ?_ ?_
 ·simp[go_sem,Z5]
 intro i hi
 by_cases hil:i=l.length
 ·subst hil
  have:0<l.length:=jf.2 hn
  simp[go_sem,Z5,this,L0y.r]
 have hlt:i<l.length:=by omega
 have hq:l[i]?=some l[i]:=q9 hlt
 have h1:=hl.1 _ (qb hq)
 have h2:=hb _ (qb hq)
 have hprev:∀j,i=j+1->∃s,l[j]?=some s/\s.b<(l[i]).a:=λj hj=>by
  subst hj
  exact⟨l[j],q9 (by omega),j4.1 hl.2 j (j+1) (by omega) hlt (by omega)⟩
 generalize l[i]=r at *
 obtain⟨_,hq'⟩:=q8.1 hq
 by_cases hi0:i=0
 ·subst hi0
  simp (disch:=omega) [go_sem,Z5,hlt,hq,hq',Rn.cs,show ¬ r.a < -4096 by omega,show ¬ r.b<=r.a by omega,show ¬ 4096<r.b by omega,Q3]
  exact⟨1,by omega,by omega,by omega⟩
 ·obtain⟨j,rfl⟩:∃j,i=j+1:=⟨i-1,by omega⟩
  obtain⟨s,hs,hsr⟩:=hprev j rfl
  obtain⟨hjl,hs'⟩:=q8.1 hs
  have hlz:(j:Int)+1<(l.length:Int):=by omega
  have hz0:(0:Int)<=(j:Int)+1:=by omega
  simp (disch:=omega) [go_sem,Z5,hz0,hlt,hlz,hjl,hq,hq',hs,hs',Rn.cs,show ¬ r.a < -4096 by omega,show ¬ r.b<=r.a by omega,show ¬ 4096<r.b by omega,show ¬ r.a<=s.b by omega,Q3]
  exact⟨j+2,by omega,by omega,by omega⟩
theorem Q27 {f fn:FuncId} (hf:Qa P f (L0x.c fn) L0x.r L0x.n) (hfn:Qns P fn):Q1i P f:=by
 intro g hg hb
 have hll:=hg.len hb
 refine PureC.is (Q8 hm hf (qh rfl) ?_) rfl
 unfold L0x.c
 simp[go_sem,rgV]
 refine Qj (α:=Nat) (λi=>i<=g.length)
  (λi=>⟨[(1,.p 0 1 0 0),(3,.i .i64 i)],[.arr 1 1 [[rwL g]]]⟩)
  (λi=>g.length-i) 0 (Nat.zero_le _) ?_ ?_
 ·simp[go_sem,rwL]
 intro i hi
 by_cases hil:i=g.length
 ·subst hil
  simp[go_sem,rwL,L0x.r]
 have hlt:i<g.length:=by omega
 have hq:g[i]?=some g[i]:=q9 hlt
 have h1:=hb.yb hg (qb hq)
 have hcall:=hfn _ (hg.rs _ (qb hq)) (hb.rnb hg (qb hq)) (hg.ne _ (qb hq))
 have hprev:∀j,i=j+1->∃s,g[j]?=some s/\s.y<(g[i]).y:=λj hj=>by
  subst hj
  exact⟨g[j],q9 (by omega),j4.1 hg.asc j (j+1) (by omega) hlt (by omega)⟩
 generalize g[i]=w at *
 obtain⟨_,hq'⟩:=q8.1 hq
 by_cases hi0:i=0
 ·subst hi0
  simp (disch:=omega) [go_sem,rwL,hlt,hq,hq',Rw.cs,show ¬ w.y < -4096 by omega,show ¬ 4096<=w.y by omega,Q3]
  refine Q5 hcall ?_
  simp (disch:=omega) [go_sem,rwL,Q3]
  exact⟨1,by omega,by omega,by omega⟩
 ·obtain⟨j,rfl⟩:∃j,i=j+1:=⟨i-1,by omega⟩
  obtain⟨s,hs,hsr⟩:=hprev j rfl
  obtain⟨hjl,hs'⟩:=q8.1 hs
  have hlz:(j:Int)+1<(g.length:Int):=by omega
  simp (disch:=omega) [go_sem,rwL,hlt,hlz,hjl,hq,hq',hs,hs',Rw.cs,show ¬ w.y < -4096 by omega,show ¬ 4096<=w.y by omega,show ¬ w.y<=s.y by omega,Q3]
  refine⟨by omega,Q5 hcall ?_⟩
  simp (disch:=omega) [go_sem,rwL,Q3]
  exact⟨j+2,by omega,by omega,by omega⟩
end
def L1l.c:C :=(.seq (.reg [Ab 6 false]) (.seq (.reg [Am 7 0,Am 8 1,Aj .geq 9 7 8,Am 10 9,Av 11 10 (.mv (.t 0)),Av 12 10 (.mv (.t 2)),Av 13 10 (.bin .leq (.t 11) (.t 12)),Ap 14 10 13,Am 15 14,Av 16 15 (.mv (.t 0)),Av 17 15 (.bin .rem (.t 16) (.c (.i .i64 2))),Av 18 15 (.bin .eql (.t 17) (.c (.i .i64 0))),Ap 19 15 18,Am 6 19]) .ret))
def L1l.r:List Rr:=[.tmp 6]
abbrev L1l.n:Nat:=20
def L1k.c (L1l L15 L08 L0l:FuncId):C :=(.seq (.reg [Au 3 (.box (.t 0)),Au 6 (.alloc [.nil]),Ac 7 0]) (.seq (.seq (.reg [Am 11 2,Au 12 (.call L1l [.t 11,(.c (.i .i64 32)),(.c (.i .i64 1024))]),Au 13 (.un .not (.t 12))]) (.ite (.t 13) (.seq (.reg [Au 14 (.build [.nil] []),As 1 6 14,Ac 7 1]) .ret) .skip)) (.seq (.reg [Ag 16 2 3,Am 17 1,Au 18 (.call L15 [.t 16,.t 17]),Am 15 18,Ax1 19 0 15,Ax1 20 1 15,Am 8 19,Am 9 20]) (.seq (.seq (.reg [Am 21 9,Ak .neq 22 21 0]) (.ite (.t 22) (.seq (.reg [Au 23 (.build [.nil] []),Am 24 9,As 1 6 23,Am 7 24]) .ret) .skip)) (.seq (.reg [Am 26 8,Au 27 (.call L08 [.t 26]),
 Am 25 27,Ax1 28 0 25,Ax1 29 1 25,Am 10 28,Am 9 29]) (.seq (.seq (.reg [Am 30 9,Ak .neq 31 30 0]) (.ite (.t 31) (.seq (.reg [Au 32 (.build [.nil] []),Am 33 9,As 1 6 32,Am 7 33]) .ret) .skip)) (.seq (.reg [Am 34 10,Am 35 2,Au 36 (.call L0l [.t 34,.t 35]),Ax1 37 0 36,Ax1 38 1 36,As 1 6 37,Am 7 38]) .ret)))))))
def L1k.r:List Rr:=[.cell 6 (some 1),.tmp 7]
abbrev L1k.n:Nat:=39
def Qnt (P:Program) (f:FuncId):Prop:=∀n lo hi:Int,0<=lo->CallIs P f [.i .i64 n,.i .i64 lo,.i .i64 hi] (.b (Zz n lo hi))
section
variable {P:Program} (hm:P.follows .mixedOrders=true)
include hm
theorem Q3p {f:FuncId} (hf:Qa P f L1l.c L1l.r L1l.n):Qnt P f:=by
 intro n lo hi h0
 refine PureC.is (Q8 hm hf (qh rfl) ?_) rfl
 unfold L1l.c Zz
 by_cases h1:lo<=n
 ·by_cases h2:n<=hi
  ·have ht:n.tmod 2=n % 2:=jn (by omega)
   have w:=Q3 (z:=n % 2) (by omega) (by omega)
   by_cases h3:n % 2=0
   ·simp[go_sem,h1,h2,ht,h3,L1l.r]
   ·have hb:(n % 2 == 0)=false:=by simpa using h3
    simp[go_sem,h1,h2,ht,w,h3,hb,L1l.r]
  ·simp[go_sem,h1,h2,L1l.r]
 ·simp[go_sem,h1,L1l.r]
end
end Go.Abs
