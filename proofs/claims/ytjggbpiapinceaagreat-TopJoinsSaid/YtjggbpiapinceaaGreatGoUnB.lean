/- Part of the library on which the proof stands: an abstract machine, its values and its soundness against the model; or what functions of the program do to such values. -/
import Derived.Test.YtjggbpiapinceaaGreatGoShp
import Derived.Test.YtjggbpiapinceaaGreatGoSet
set_option linter.unusedVariables false
set_option linter.unusedSimpArgs false
set_option maxHeartbeats 8000000
set_option maxRecDepth 20000
namespace Go.Abs
def L13.c:C :=(.seq (.reg [Ab 2 false]) (.seq (.seq (.reg [Ac 3 0]) (.blk 0 (.loop (.seq (.seq (.reg [Am 4 3,Am 5 0,An 6 0 5,Aj .lss 7 4 6]) (.ite (.t 7) .skip (.exit 0))) (.seq (.blk 1 (.seq (.drw [Am 10 0,Am 11 3,Ai 12 2 10 11,Af 13 0 12,Al 14 13,Ak .lss 15 14 (-4096),Am 16 15,Aw 17 16 (.mv (.t 0)),Aw 18 16 (.mv (.t 3)),Aw 19 16 (.ia 2 (.t 17) (.t 18)),Aw 20 16 (.fa 0 (.t 19)),Aw 21 16 (.ld none (.t 20)),Aw 22 16 (.mv (.t 0)),Aw 23 16 (.mv (.t 3)),Aw 24 16 (.ia 2 (.t 22) (.t 23)),Aw 25 16 (.fa 1 (.t 24)),Aw 26 16 (.ld none (.t 25)),Aw 27 16 (.bin .geq (.t 21) (.t 26)),Ao 28 16 27,Am 29 28,Aw 30 29 (.mv (.t 0)),
 Aw 31 29 (.mv (.t 3)),Aw 32 29 (.ia 2 (.t 30) (.t 31)),Aw 33 29 (.fa 1 (.t 32)),Aw 34 29 (.ld none (.t 33)),Aw 35 29 (.bin .gtr (.t 34) (.c (.i .i64 4096))),Ao 36 29 35,Am 37 36,Aw 38 37 (.mv (.t 3)),Aw 39 37 (.bin .gtr (.t 38) (.c (.i .i64 0))),Aw 40 37 (.mv (.t 39)),Av 41 40 (.mv (.t 0)),Av 42 40 (.mv (.t 3)),Av 43 40 (.ia 2 (.t 41) (.t 42)),Av 44 40 (.fa 0 (.t 43)),Av 45 40 (.ld none (.t 44)),Av 46 40 (.mv (.t 0)),Av 47 40 (.mv (.t 3)),Av 48 40 (.bin .sub (.t 47) (.c (.i .i64 1))),Av 49 40 (.ia 2 (.t 46) (.t 48)),Av 50 40 (.fa 1 (.t 49)),Av 51 40 (.ld none (.t 50)),Av 52 40 (.bin .leq (.t 45) (.t 51)),
 Aw 53 37 (.pick (.t 40) (.t 52) (.c (.b false))),Ao 54 37 53] []) (.ite (.t 54) (.seq (.reg [Ab 2 false]) .ret) .skip))) (.reg [Am 8 3,Ad 9 8 1,Am 3 9])))))) (.seq (.reg [Am 55 0,An 56 0 55,Ak .gtr 57 56 0,Am 2 57]) .ret)))
def L13.r:List Rr:=[.tmp 2]
abbrev L13.n:Nat:=58
def L0z.c (L13:FuncId):C :=(.seq (.reg [Au 1 (.box (.t 0)),Ab 2 false]) (.seq (.seq (.reg [Ac 3 0]) (.blk 0 (.loop (.seq (.seq (.reg [Am 5 3,Af 6 0 1,Al 7 6,An 8 0 7,Aj .lss 9 5 8]) (.ite (.t 9) .skip (.exit 0))) (.seq (.blk 1 (.seq (.reg [Af 12 0 1,Al 13 12,Am 14 3,Ai 15 2 13 14,Af 16 0 15,Al 17 16,Am 4 17]) (.seq (.reg [Am 18 4,Ak .lss 19 18 (-4096),Am 20 19,Aw 21 20 (.mv (.t 4)),Aw 22 20 (.bin .geq (.t 21) (.c (.i .i64 4096))),Ao 23 20 22,Am 24 23,Aw 25 24 (.mv (.t 3)),Aw 26 24 (.bin .gtr (.t 25) (.c (.i .i64 0))),Aw 27 24 (.mv (.t 26)),Av 28 27 (.mv (.t 4)),Av 29 27 (.fa 0 (.t 1)),Av 30 27 (.ld none (.t 29)),
 Av 31 27 (.mv (.t 3)),Av 32 27 (.bin .sub (.t 31) (.c (.i .i64 1))),Av 33 27 (.ia 2 (.t 30) (.t 32)),Av 34 27 (.fa 0 (.t 33)),Av 35 27 (.ld none (.t 34)),Av 36 27 (.bin .leq (.t 28) (.t 35)),Aw 37 24 (.pick (.t 27) (.t 36) (.c (.b false))),Ao 38 24 37,Am 39 38,Aw 40 39 (.fa 0 (.t 1)),Aw 41 39 (.ld none (.t 40)),Aw 42 39 (.mv (.t 3)),Aw 43 39 (.ia 2 (.t 41) (.t 42)),Aw 44 39 (.fa 1 (.t 43)),Aw 45 39 (.ld none (.t 44)),Aw 46 39 (.call L13 [.t 45]),Aw 47 39 (.un .not (.t 46)),Ao 48 39 47]) (.ite (.t 48) (.seq (.reg [Ab 2 false]) .ret) .skip)))) (.reg [Am 10 3,Ad 11 10 1,Am 3 11])))))) (.seq (.reg [
 Ab 2 true]) .ret)))
def L0z.r:List Rr:=[.tmp 2]
abbrev L0z.n:Nat:=49
def L11.c:C :=(.seq (.reg [Az 4]) (.seq (.reg [Az 5]) (.seq (.seq (.reg [Ac 6 0]) (.blk 0 (.loop (.seq (.seq (.reg [Am 11 6,Am 12 0,An 13 0 12,Aj .lss 14 11 13]) (.ite (.t 14) .skip (.exit 0))) (.seq (.blk 1 (.drw [Am 17 5,Am 18 0,Am 19 6,Ai 20 2 18 19,Af 21 0 20,Al 22 21,Am 23 0,Am 24 6,Ai 25 2 23 24,Af 26 1 25,Al 27 26,Au 28 (.bsi 1 2 [(.i .i64 0)] [(0,(.t 22)),(1,(.t 27))]),Au 29 (.app 1 8 (.t 17) (.t 28)),Am 5 29] [])) (.reg [Am 15 6,Ad 16 15 1,Am 6 16])))))) (.seq (.seq (.reg [Ac 7 0]) (.blk 2 (.loop (.seq (.seq (.reg [Am 30 7,Am 31 1,An 32 0 31,Aj .lss 33 30 32]) (.ite (.t 33) .skip (.exit 2)))
 (.seq (.blk 3 (.drw [Am 36 5,Am 37 1,Am 38 7,Ai 39 2 37 38,Af 40 0 39,Al 41 40,Am 42 1,Am 43 7,Ai 44 2 42 43,Af 45 1 44,Al 46 45,Au 47 (.bsi 1 2 [(.i .i64 0)] [(0,(.t 41)),(1,(.t 46))]),Au 48 (.app 1 8 (.t 36) (.t 47)),Am 5 48] [])) (.reg [Am 34 7,Ad 35 34 1,Am 7 35])))))) (.seq (.seq (.reg [Ac 8 1]) (.blk 4 (.loop (.seq (.seq (.reg [Am 49 8,Am 50 5,An 51 0 50,Aj .lss 52 49 51]) (.ite (.t 52) .skip (.exit 4))) (.seq (.blk 5 (.seq (.reg [Am 55 8,Am 9 55]) (.blk 6 (.loop (.seq (.seq (.drw [Am 56 9,Ak .gtr 57 56 0,Am 58 57,Av 59 58 (.mv (.t 5)),Av 60 58 (.mv (.t 9)),Av 61 58 (.ia 1 (.t 59) (.t 60)),
 Av 62 58 (.ld none (.t 61)),Av 63 58 (.mv (.t 5)),Av 64 58 (.mv (.t 9)),Av 65 58 (.bin .sub (.t 64) (.c (.i .i64 1))),Av 66 58 (.ia 1 (.t 63) (.t 65)),Av 67 58 (.ld none (.t 66)),Av 68 58 (.bin .lss (.t 62) (.t 67)),Ap 69 58 68] []) (.ite (.t 69) .skip (.exit 6))) (.seq (.blk 7 (.seq (.reg [Am 72 5,Am 73 9,Ai 74 1 72 73,Al 75 74,Am 10 75]) (.seq (.reg [Am 76 5,Am 77 9,Am 78 5,Am 79 9,Ak .sub 80 79 1,Ai 81 1 78 80,Al 82 81,Ai 83 1 76 77,As 1 83 82]) (.reg [Am 84 5,Am 85 9,Ak .sub 86 85 1,Am 87 10,Ai 88 1 84 86,As 1 88 87])))) (.reg [Am 70 9,Ak .sub 71 70 1,Am 9 71]))))))) (.reg [Am 53 8,Ad 54 53 1,
 Am 8 54])))))) (.seq (.reg [Am 89 5,Am 4 89]) .ret))))))
def L11.r:List Rr:=[.tmp 4]
abbrev L11.n:Nat:=90
def L14.c:C :=(.seq (.reg [Ab 4 false]) (.seq (.seq (.reg [Ac 5 0]) (.blk 0 (.loop (.seq (.seq (.reg [Am 6 5,Am 7 0,An 8 0 7,Aj .lss 9 6 8]) (.ite (.t 9) .skip (.exit 0))) (.seq (.blk 1 (.seq (.reg [Am 12 0,Am 13 5,Ai 14 2 12 13,Af 15 0 14,Al 16 15,Am 17 1,Aj .leq 18 16 17,Am 19 18,Av 20 19 (.mv (.t 1)),Av 21 19 (.mv (.t 0)),Av 22 19 (.mv (.t 5)),Av 23 19 (.ia 2 (.t 21) (.t 22)),Av 24 19 (.fa 1 (.t 23)),Av 25 19 (.ld none (.t 24)),Av 26 19 (.bin .lss (.t 20) (.t 25)),Ap 27 19 26]) (.ite (.t 27) (.seq (.reg [Ab 4 true]) .ret) .skip))) (.reg [Am 10 5,Ad 11 10 1,Am 5 11])))))) (.seq (.reg [Ab 4 false])
 .ret)))
def L14.r:List Rr:=[.tmp 4]
abbrev L14.n:Nat:=28
def L15.c:C :=(.seq (.reg [Ab 6 false]) (.seq (.seq (.reg [Am 7 0]) (.blk 0 (.seq (.reg [Ak .eql 9 7 0,Am 8 9]) (.ite (.t 8) (.seq (.reg [Am 10 1,Am 11 10,Aw 12 11 (.mv (.t 2)),Ao 13 11 12,Am 6 13]) .ret) (.seq (.reg [Ak .eql 15 7 1,Am 14 15]) (.ite (.t 14) (.seq (.reg [Am 16 1,Am 17 16,Av 18 17 (.mv (.t 2)),Ap 19 17 18,Am 6 19]) .ret) .skip)))))) (.seq (.reg [Am 20 1,Am 21 20,Av 22 21 (.mv (.t 2)),Av 23 21 (.un .not (.t 22)),Ap 24 21 23,Am 6 24]) .ret)))
def L15.r:List Rr:=[.tmp 6]
abbrev L15.n:Nat:=25
def L12.c (L11 L14 L15:FuncId):C :=(.seq (.reg [Az 6]) (.seq (.reg [Am 11 1,Am 12 2,Au 13 (.call L11 [.t 11,.t 12]),Am 7 13]) (.seq (.reg [Az 8]) (.seq (.seq (.reg [Ac 9 0]) (.blk 0 (.loop (.seq (.seq (.reg [Am 14 9,Ad 15 14 1,Am 16 7,An 17 0 16,Aj .lss 18 15 17]) (.ite (.t 18) .skip (.exit 0))) (.seq (.blk 1 (.seq (.seq (.drw [Am 21 7,Am 22 9,Ai 23 1 21 22,Al 24 23,Am 25 7,Am 26 9,Ad 27 26 1,Ai 28 1 25 27,Al 29 28,Aj .eql 30 24 29,Am 31 30,Aw 32 31 (.mv (.t 0)),Aw 33 31 (.mv (.t 1)),Aw 34 31 (.mv (.t 7)),Aw 35 31 (.mv (.t 9)),Aw 36 31 (.ia 1 (.t 34) (.t 35)),Aw 37 31 (.ld none (.t 36)),Aw 38 31 (.call L14 [.t 33,.t 37]),
 Aw 39 31 (.mv (.t 2)),Aw 40 31 (.mv (.t 7)),Aw 41 31 (.mv (.t 9)),Aw 42 31 (.ia 1 (.t 40) (.t 41)),Aw 43 31 (.ld none (.t 42)),Aw 44 31 (.call L14 [.t 39,.t 43]),Aw 45 31 (.call L15 [.t 32,.t 38,.t 44]),Aw 46 31 (.un .not (.t 45)),Ao 47 31 46] [[],[],[],[],[],[],[],[],[],[],[],[],[],[],[],[],[],[],[],[],[],[17],[17],[],[],[],[]]) (.ite (.t 47) (.exit 1) .skip)) (.seq (.reg [Am 48 8,An 49 0 48,Am 10 49]) (.seq (.drw [Am 50 10,Ak .gtr 51 50 0,Am 52 51,Av 53 52 (.mv (.t 8)),Av 54 52 (.mv (.t 10)),Av 55 52 (.bin .sub (.t 54) (.c (.i .i64 1))),Av 56 52 (.ia 2 (.t 53) (.t 55)),Av 57 52 (.fa 1 (.t 56)),
 Av 58 52 (.ld none (.t 57)),Av 59 52 (.mv (.t 7)),Av 60 52 (.mv (.t 9)),Av 61 52 (.ia 1 (.t 59) (.t 60)),Av 62 52 (.ld none (.t 61)),Av 63 52 (.bin .eql (.t 58) (.t 62)),Ap 64 52 63] []) (.ite (.t 64) (.reg [Am 65 8,Am 66 10,Ak .sub 67 66 1,Am 68 7,Am 69 9,Ad 70 69 1,Ai 71 1 68 70,Al 72 71,Ai 73 2 65 67,Af 74 1 73,As 1 74 72]) (.drw [Am 75 8,Am 76 7,Am 77 9,Ai 78 1 76 77,Al 79 78,Am 80 7,Am 81 9,Ad 82 81 1,Ai 83 1 80 82,Al 84 83,Au 85 (.build [(.i .i64 0),(.i .i64 0)] [(0,1,(.t 79)),(1,1,(.t 84))]),Au 86 (.bsi 2 1 [(.i .i64 0),(.i .i64 0)] [(0,(.t 85))]),Au 87 (.app 2 16 (.t 75) (.t 86)),Am 8 87] []))))))
 (.reg [Am 19 9,Ad 20 19 1,Am 9 20])))))) (.seq (.reg [Am 88 8,Am 6 88]) .ret)))))
def L12.r:List Rr:=[.tmp 6]
abbrev L12.n:Nat:=89
def L16.c (L0z L12:FuncId):C :=(.seq (.reg [Au 4 (.box (.t 1)),Au 5 (.box (.t 2)),Au 6 (.alloc [.nil])]) (.seq (.reg [Au 7 (.alloc [.nil])]) (.seq (.seq (.reg [Ag 14 1 4,Au 15 (.call L0z [.t 14]),Au 16 (.un .not (.t 15)),Am 17 16,Aw 18 17 (.ld (some 1) (.t 5)),Aw 19 17 (.call L0z [.t 18]),Aw 20 17 (.un .not (.t 19)),Ao 21 17 20]) (.ite (.t 21) (.seq (.reg [Ag 22 1 7,As 1 6 22]) .ret) .skip)) (.seq (.reg [Ac 8 0,Ac 9 0]) (.seq (.blk 0 (.loop (.seq (.seq (.reg [Am 23 8,Af 24 0 4,Al 25 24,An 26 0 25,Aj .lss 27 23 26,Am 28 27,Aw 29 28 (.mv (.t 9)),Aw 30 28 (.fa 0 (.t 5)),Aw 31 28 (.ld none (.t 30)),
 Aw 32 28 (.len 0 (.t 31)),Aw 33 28 (.bin .lss (.t 29) (.t 32)),Ao 34 28 33]) (.ite (.t 34) .skip (.exit 0))) (.blk 1 (.seq (.reg [Ac 10 0]) (.seq (.reg [Az 11,Az 12]) (.seq (.seq (.drw [Am 35 9,Af 36 0 5,Al 37 36,An 38 0 37,Aj .eql 39 35 38,Am 40 39,Aw 41 40 (.mv (.t 8)),Aw 42 40 (.fa 0 (.t 4)),Aw 43 40 (.ld none (.t 42)),Aw 44 40 (.len 0 (.t 43)),Aw 45 40 (.bin .lss (.t 41) (.t 44)),Aw 46 40 (.mv (.t 45)),Av 47 46 (.fa 0 (.t 4)),Av 48 46 (.ld none (.t 47)),Av 49 46 (.mv (.t 8)),Av 50 46 (.ia 2 (.t 48) (.t 49)),Av 51 46 (.fa 0 (.t 50)),Av 52 46 (.ld none (.t 51)),Av 53 46 (.fa 0 (.t 5)),Av 54 46 (.ld none (.t 53)),
 Av 55 46 (.mv (.t 9)),Av 56 46 (.ia 2 (.t 54) (.t 55)),Av 57 46 (.fa 0 (.t 56)),Av 58 46 (.ld none (.t 57)),Av 59 46 (.bin .leq (.t 52) (.t 58)),Aw 60 40 (.pick (.t 46) (.t 59) (.c (.b false))),Ao 61 40 60] []) (.ite (.t 61) (.reg [Af 62 0 4,Al 63 62,Am 64 8,Ai 65 2 63 64,Af 66 0 65,Al 67 66,Am 10 67]) (.reg [Af 68 0 5,Al 69 68,Am 70 9,Ai 71 2 69 70,Af 72 0 71,Al 73 72,Am 10 73]))) (.seq (.seq (.reg [Am 74 8,Af 75 0 4,Al 76 75,An 77 0 76,Aj .lss 78 74 77,Am 79 78,Av 80 79 (.fa 0 (.t 4)),Av 81 79 (.ld none (.t 80)),Av 82 79 (.mv (.t 8)),Av 83 79 (.ia 2 (.t 81) (.t 82)),Av 84 79 (.fa 0 (.t 83)),
 Av 85 79 (.ld none (.t 84)),Av 86 79 (.mv (.t 10)),Av 87 79 (.bin .eql (.t 85) (.t 86)),Ap 88 79 87]) (.ite (.t 88) (.seq (.reg [Af 89 0 4,Al 90 89,Am 91 8,Ai 92 2 90 91,Af 93 1 92,Al 94 93,Am 11 94]) (.reg [Am 95 8,Ad 96 95 1,Am 8 96])) .skip)) (.seq (.seq (.reg [Am 97 9,Af 98 0 5,Al 99 98,An 100 0 99,Aj .lss 101 97 100,Am 102 101,Av 103 102 (.fa 0 (.t 5)),Av 104 102 (.ld none (.t 103)),Av 105 102 (.mv (.t 9)),Av 106 102 (.ia 2 (.t 104) (.t 105)),Av 107 102 (.fa 0 (.t 106)),Av 108 102 (.ld none (.t 107)),Av 109 102 (.mv (.t 10)),Av 110 102 (.bin .eql (.t 108) (.t 109)),Ap 111 102 110]) (.ite (.t 111)
 (.seq (.reg [Af 112 0 5,Al 113 112,Am 114 9,Ai 115 2 113 114,Af 116 1 115,Al 117 116,Am 12 117]) (.reg [Am 118 9,Ad 119 118 1,Am 9 119])) .skip)) (.seq (.reg [Am 120 0,Am 121 11,Am 122 12,Au 123 (.call L12 [.t 120,.t 121,.t 122]),Am 13 123]) (.seq (.reg [Am 124 13,An 125 0 124,Ak .gtr 126 125 0]) (.ite (.t 126) (.reg [Af 127 0 7,Al 128 127,Am 129 10,Am 130 13,Au 131 (.build [(.i .i64 0),.nil] [(0,1,(.t 129)),(1,1,(.t 130))]),Au 132 (.bso 2 1 [(.i .i64 0),.nil] [(0,(.t 131))]),Au 133 (.app 2 32 (.t 128) (.t 132)),Af 134 0 7,As 1 134 133]) .skip)))))))))))) (.seq (.reg [Ag 135 1 7,As 1 6 135]) .ret))))))
def L16.r:List Rr:=[.cell 6 (some 1)]
abbrev L16.n:Nat:=136
def L0y.c (L16:FuncId):C :=(.seq (.reg [Au 2 (.box (.t 0)),Au 3 (.box (.t 1)),Au 4 (.alloc [.nil])]) (.seq (.reg [Ag 5 1 2,Ag 6 1 3,Au 7 (.call L16 [(.c (.i .i64 0)),.t 5,.t 6]),As 1 4 7]) .ret))
def L0y.r:List Rr:=[.cell 4 (some 1)]
abbrev L0y.n:Nat:=8
def L0w.c:C :=(.seq (.reg [Au 2 (.box (.t 0)),Au 3 (.box (.t 1)),Ab 4 false]) (.seq (.seq (.reg [Af 9 0 2,Al 10 9,An 11 0 10,Af 12 0 3,Al 13 12,An 14 0 13,Aj .neq 15 11 14]) (.ite (.t 15) (.seq (.reg [Ab 4 false]) .ret) .skip)) (.seq (.seq (.reg [Ac 5 0]) (.blk 0 (.loop (.seq (.seq (.reg [Am 16 5,Af 17 0 2,Al 18 17,An 19 0 18,Aj .lss 20 16 19]) (.ite (.t 20) .skip (.exit 0))) (.seq (.blk 1 (.seq (.drw [Af 23 0 2,Al 24 23,Am 25 5,Ai 26 2 24 25,Ag 27 2 26,Af 28 0 3,Al 29 28,Am 30 5,Ai 31 2 29 30,Ag 32 2 31,Au 6 (.alloc [(.i .i64 0),.nil]),Au 7 (.alloc [(.i .i64 0),.nil]),As 2 6 27,As 2 7 32] [[],[],[],[],[],[],[],[],[],[],[],[],[5,6,8,9],[]])
 (.seq (.seq (.reg [Af 33 0 6,Al 34 33,Af 35 0 7,Al 36 35,Aj .neq 37 34 36,Am 38 37,Aw 39 38 (.fa 1 (.t 6)),Aw 40 38 (.ld none (.t 39)),Aw 41 38 (.len 0 (.t 40)),Aw 42 38 (.fa 1 (.t 7)),Aw 43 38 (.ld none (.t 42)),Aw 44 38 (.len 0 (.t 43)),Aw 45 38 (.bin .neq (.t 41) (.t 44)),Ao 46 38 45]) (.ite (.t 46) (.seq (.reg [Ab 4 false]) .ret) .skip)) (.seq (.reg [Ac 8 0]) (.blk 2 (.loop (.seq (.seq (.reg [Am 47 8,Af 48 1 6,Al 49 48,An 50 0 49,Aj .lss 51 47 50]) (.ite (.t 51) .skip (.exit 2))) (.seq (.blk 3 (.seq (.drw [Af 54 1 6,Al 55 54,Am 56 8,Ai 57 2 55 56,Ag 58 2 57,Af 59 1 7,Al 60 59,Am 61 8,Ai 62 2 60 61,
 Ag 63 2 62,Au 64 (.eqa [1,1] true (.t 58) (.t 63))] []) (.ite (.t 64) (.seq (.reg [Ab 4 false]) .ret) .skip))) (.reg [Am 52 8,Ad 53 52 1,Am 8 53]))))))))) (.reg [Am 21 5,Ad 22 21 1,Am 5 22])))))) (.seq (.reg [Ab 4 true]) .ret))))
def L0w.r:List Rr:=[.tmp 4]
abbrev L0w.n:Nat:=65
def Qo9 (P:Program) (f:FuncId):Prop:=∀l:List Rn,RnsV l->RnI l->l≠[]->CallIs P f [Qe l] (.b true)
def Q1l (P:Program) (f:FuncId):Prop:=∀g:List Rw,RgV g->RgB g->CallIs P f [rgV g] (.b true)
def InsC (P:Program) (f:FuncId):Prop:=∀(l:List Rn) (x:Int),l.length<=8192->CallIs P f [Qe l,.i .i64 x] (.b (decide (Qb l x)))
def Qnu (P:Program) (f:FuncId):Prop:=∀(op:Int) (a b:Bool),CallIs P f [.i .i64 op,.b a,.b b] (.b (Y7 op a b))
def BoundsC (P:Program) (f:FuncId):Prop:=∀a b:List Rn,a.length<=8192->b.length<=8192->PureC P f [Qe a,Qe b] λr=>∃L:List Int,L.Perm (Zp a++Zp b)/\L.Pairwise (·<=·)/\r=isV L
def rwL (g:List Rw):V:=.l 2 (g.map Rw.cs)
theorem Wh (l:List Rn):(Zp l).length=2*l.length:=by
 unfold Zp
 rw[List.length_flatMap]
 simp
 induction l with
 | nil=>rfl
 | cons a l ih=>simp at ih ⊢;omega
theorem Q5o (l:List Rn) (r:Rn):Zp (l++[r])=Zp l++[r.a,r.b]:=by simp[Zp]
theorem Q19 {l:List Rn} {k:Nat} {r:Rn} (h:l[k]?=some r) (x:Int):Qb (l.take (k+1)) x↔Qb (l.take k) x∨(r.a<=x/\x<r.b):=by
 rw[Qf h,Yi,inRns_cons]
 simp[Qi]
section
variable {P:Program} (hm:P.follows .mixedOrders=true)
include hm
theorem Q3x {f:FuncId} (hf:Q9 P f L13.c L13.r L13.n):Qo9 P f:=by
 intro l hl hb hn
 have hll:=hl.len hb
 refine PureC.is (Q8 hm hf (qh rfl) ?_) rfl
 unfold L13.c
 simp[go_sem,Qe]
 refine Qj (α:=Nat) (λi=>i<=l.length)
  (λi=>⟨[(0,Qe l),(3,.i .i64 i)],[]⟩)
  (λi=>l.length-i) 0 (Nat.zero_le _) ?_ ?_
 ·simp[go_sem,Qe]
 intro i hi
 by_cases hil:i=l.length
 ·subst hil
  have:0<l.length:=jf.2 hn
  simp[go_sem,Qe,this,L13.r]
 have hlt:i<l.length:=by omega
 have hq:l[i]?=some l[i]:=q9 hlt
 have h1:=hl.1 _ (qb hq)
 have h2:=hb _ (qb hq)
 have hprev:∀j,i=j+1->∃s,l[j]?=some s/\s.b<(l[i]).a:=λj hj=>by
  subst hj
  exact⟨l[j],q9 (by omega),j4.1 hl.2 j (j+1) (by omega) hlt (by omega)⟩
 generalize l[i]=r at *
 obtain⟨_,hq'⟩:=q8.1 hq
 by_cases hi0:i=0
 ·subst hi0
  simp (disch:=omega) [go_sem,Qe,hlt,hq,hq',Rn.cs,show ¬ r.a < -4096 by omega,show ¬ r.b<=r.a by omega,show ¬ 4096<r.b by omega,Q3]
  exact⟨1,by omega,by omega,by omega⟩
 ·obtain⟨j,rfl⟩:∃j,i=j+1:=⟨i-1,by omega⟩
  obtain⟨s,hs,hsr⟩:=hprev j rfl
  obtain⟨hjl,hs'⟩:=q8.1 hs
  have hlz:(j:Int)+1<(l.length:Int):=by omega
  have hz0:(0:Int)<=(j:Int)+1:=by omega
  simp (disch:=omega) [go_sem,Qe,hz0,hlt,hlz,hjl,hq,hq',hs,hs',Rn.cs,show ¬ r.a < -4096 by omega,show ¬ r.b<=r.a by omega,show ¬ 4096<r.b by omega,show ¬ r.a<=s.b by omega,Q3]
  exact⟨j+2,by omega,by omega,by omega⟩
theorem Q2c {f fn:FuncId} (hf:Q9 P f (L0z.c fn) L0z.r L0z.n) (hfn:Qo9 P fn):Q1l P f:=by
 intro g hg hb
 have hll:=hg.len hb
 refine PureC.is (Q8 hm hf (qh rfl) ?_) rfl
 unfold L0z.c
 simp[go_sem,rgV]
 refine Qj (α:=Nat) (λi=>i<=g.length)
  (λi=>⟨[(1,.p 0 1 0 0),(3,.i .i64 i)],[.arr 1 1 [[rwL g]]]⟩)
  (λi=>g.length-i) 0 (Nat.zero_le _) ?_ ?_
 ·simp[go_sem,rwL]
 intro i hi
 by_cases hil:i=g.length
 ·subst hil
  simp[go_sem,rwL,L0z.r]
 have hlt:i<g.length:=by omega
 have hq:g[i]?=some g[i]:=q9 hlt
 have h1:=hb.yb hg (qb hq)
 have hcall:=hfn _ (hg.rs _ (qb hq)) (hb.rnb hg (qb hq)) (hg.ne _ (qb hq))
 have hprev:∀j,i=j+1->∃s,g[j]?=some s/\s.y<(g[i]).y:=λj hj=>by
  subst hj
  exact⟨g[j],q9 (by omega),j4.1 hg.asc j (j+1) (by omega) hlt (by omega)⟩
 generalize g[i]=w at *
 obtain⟨_,hq'⟩:=q8.1 hq
 by_cases hi0:i=0
 ·subst hi0
  simp (disch:=omega) [go_sem,rwL,hlt,hq,hq',Rw.cs,show ¬ w.y < -4096 by omega,show ¬ 4096<=w.y by omega,Q3]
  refine Q5 hcall ?_
  simp (disch:=omega) [go_sem,rwL,Q3]
  exact⟨1,by omega,by omega,by omega⟩
 ·obtain⟨j,rfl⟩:∃j,i=j+1:=⟨i-1,by omega⟩
  obtain⟨s,hs,hsr⟩:=hprev j rfl
  obtain⟨hjl,hs'⟩:=q8.1 hs
  have hlz:(j:Int)+1<(g.length:Int):=by omega
  simp (disch:=omega) [go_sem,rwL,hlt,hlz,hjl,hq,hq',hs,hs',Rw.cs,show ¬ w.y < -4096 by omega,show ¬ 4096<=w.y by omega,show ¬ w.y<=s.y by omega,Q3]
  refine⟨by omega,Q5 hcall ?_⟩
  simp (disch:=omega) [go_sem,rwL,Q3]
  exact⟨j+2,by omega,by omega,by omega⟩
theorem Q0m {f:FuncId} (hf:Q9 P f L14.c L14.r L14.n):InsC P f:=by
 intro l x hll
 refine PureC.is (Q8 hm hf (qh rfl) ?_) rfl
 unfold L14.c
 simp[go_sem,Qe]
 refine Qj (α:=Nat) (λi=>i<=l.length/\¬ Qb (l.take i) x)
  (λi=>⟨[(0,Qe l),(1,.i .i64 x),(5,.i .i64 i)],[]⟩)
  (λi=>l.length-i) 0 ⟨Nat.zero_le _,by simp[Qi]⟩ ?_ ?_
 ·simp[go_sem,Qe]
 rintro i ⟨hi,hno⟩
 by_cases hil:i=l.length
 ·subst hil
  rw[qi]at hno
  simp[go_sem,Qe,hno,L14.r]
 have hlt:i<l.length:=by omega
 have hq:l[i]?=some l[i]:=q9 hlt
 have hs:=Q19 hq x
 have hmem:=qb hq
 generalize l[i]=r at *
 obtain⟨_,hq'⟩:=q8.1 hq
 by_cases h1:r.a<=x
 ·by_cases h2:x<r.b
  ·have hin:Qb l x:=⟨r,hmem,h1,h2⟩
   simp (disch:=omega) [go_sem,Qe,hlt,hq,hq',Rn.cs,h1,h2,hin,Q3,L14.r]
  ·simp (disch:=omega) [go_sem,Qe,hlt,hq,hq',Rn.cs,h1,h2,Q3]
   exact⟨i+1,⟨by omega,by rw[hs];simp[hno];omega⟩,by omega,by omega⟩
 ·simp (disch:=omega) [go_sem,Qe,hlt,hq,hq',Rn.cs,h1,Q3]
  exact⟨i+1,⟨by omega,by rw[hs];simp[hno];omega⟩,by omega,by omega⟩
theorem Q3w {f:FuncId} (hf:Q9 P f L15.c L15.r L15.n):Qnu P f:=by
 intro op a b
 refine PureC.is (Q8 hm hf (qh rfl) ?_) rfl
 unfold L15.c Y7
 by_cases h0:op=0
 ·subst h0
  cases a<;>cases b<;>simp[go_sem,L15.r]
 ·have h0':(op == 0)=false:=by simpa using h0
  by_cases h1:op=1
  ·subst h1
   cases a<;>cases b<;>simp[go_sem,L15.r]
  ·have h1':(op == 1)=false:=by simpa using h1
   cases a<;>cases b<;>simp[go_sem,h0,h0',h1,h1',L15.r]
end
end Go.Abs
