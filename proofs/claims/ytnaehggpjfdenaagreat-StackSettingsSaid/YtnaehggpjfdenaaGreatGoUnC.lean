/- Part of the library on which the proof stands: an abstract machine, its values and its soundness against the model; or what functions of the program do to such values. -/
import Derived.Test.YtnaehggpjfdenaaGreatGoShp
import Derived.Test.YtnaehggpjfdenaaGreatGoMapG
set_option linter.unusedVariables false
set_option linter.unusedSimpArgs false
set_option maxHeartbeats 8000000
set_option maxRecDepth 20000
namespace Go.Abs
def L13.c:C :=(.seq (.reg [Ab 2 false]) (.seq (.reg [Am 3 0,Ak .geq 4 3 (-4096),Am 5 4,Av 6 5 (.mv (.t 0)),Av 7 5 (.bin .lss (.t 6) (.c (.i .i64 4096))),Ap 8 5 7,Am 2 8]) .ret))
def L13.r:List Rr:=[.tmp 2]
abbrev L13.n:Nat:=9
def L11.c (L13 L1c:FuncId):C :=(.seq (.reg [Au 1 (.box (.t 0)),Ab 2 false]) (.seq (.seq (.reg [Af 5 0 1,Al 6 5,An 7 0 6,Ac 8 0]) (.blk 0 (.loop (.seq (.reg [Aj .lss 9 8 7]) (.seq (.ite (.t 9) .skip (.exit 0)) (.seq (.blk 1 (.seq (.reg [Am 10 8,Ai 11 2 6 8,Ag 12 2 11,Au 4 (.alloc [(.i .i64 0),.nil]),Am 3 10,As 2 4 12]) (.seq (.seq (.drw [Af 13 0 4,Al 14 13,Au 15 (.call L13 [.t 14]),Au 16 (.un .not (.t 15)),Am 17 16,Aw 18 17 (.mv (.t 3)),Aw 19 17 (.bin .gtr (.t 18) (.c (.i .i64 0))),Aw 20 17 (.mv (.t 19)),Av 21 20 (.fa 0 (.t 4)),Av 22 20 (.ld none (.t 21)),Av 23 20 (.fa 0 (.t 1)),Av 24 20 (.ld none (.t 23)),
 Av 25 20 (.mv (.t 3)),Av 26 20 (.bin .sub (.t 25) (.c (.i .i64 1))),Av 27 20 (.ia 2 (.t 24) (.t 26)),Av 28 20 (.fa 0 (.t 27)),Av 29 20 (.ld none (.t 28)),Av 30 20 (.bin .leq (.t 22) (.t 29)),Aw 31 17 (.pick (.t 20) (.t 30) (.c (.b false))),Ao 32 17 31,Am 33 32,Aw 34 33 (.fa 1 (.t 4)),Aw 35 33 (.ld none (.t 34)),Aw 36 33 (.len 0 (.t 35)),Aw 37 33 (.bin .eql (.t 36) (.c (.i .i64 0))),Ao 38 33 37,Am 39 38,Aw 40 39 (.fa 1 (.t 4)),Aw 41 39 (.ld none (.t 40)),Aw 42 39 (.call L1c [.t 41]),Aw 43 39 (.un .not (.t 42)),Ao 44 39 43] []) (.ite (.t 44) (.seq (.reg [Ab 2 false]) .ret) .skip)) (.seq (.reg [
 Af 45 1 4,Al 46 45,Au 47 (.ia 2 (.t 46) (.c (.i .i64 0))),Af 48 0 47,Al 49 48,Au 50 (.call L13 [.t 49]),Au 51 (.un .not (.t 50)),Am 52 51,Aw 53 52 (.fa 1 (.t 4)),Aw 54 52 (.ld none (.t 53)),Aw 55 52 (.fa 1 (.t 4)),Aw 56 52 (.ld none (.t 55)),Aw 57 52 (.len 0 (.t 56)),Aw 58 52 (.bin .sub (.t 57) (.c (.i .i64 1))),Aw 59 52 (.ia 2 (.t 54) (.t 58)),Aw 60 52 (.fa 1 (.t 59)),Aw 61 52 (.ld none (.t 60)),Aw 62 52 (.bin .sub (.t 61) (.c (.i .i64 1))),Aw 63 52 (.call L13 [.t 62]),Aw 64 52 (.un .not (.t 63)),Ao 65 52 64]) (.ite (.t 65) (.seq (.reg [Ab 2 false]) .ret) .skip))))) (.reg [Ad 66 8 1,Am 8 66])))))))
 (.seq (.reg [Ab 2 true]) .ret)))
def L11.r:List Rr:=[.tmp 2]
abbrev L11.n:Nat:=67
def L14.c (L1t L15:FuncId):C :=(.seq (.reg [Au 2 (.box (.t 0)),Az 4]) (.seq (.reg [Af 8 0 2,Al 9 8,Am 10 1,Au 11 (.call L1t [.t 9,.t 10,(.c (.f L15 []))]),Am 7 11,Ax1 12 0 7,Ax1 13 1 7,Am 5 12,Am 6 13]) (.seq (.seq (.reg [Am 14 6,Au 15 (.un .not (.t 14))]) (.ite (.t 15) (.seq (.reg [Az 4]) .ret) .skip)) (.seq (.reg [Af 16 0 2,Al 17 16,Am 18 5,Ai 19 2 17 18,Af 20 1 19,Al 21 20,Am 4 21]) .ret))))
def L14.r:List Rr:=[.tmp 4]
abbrev L14.n:Nat:=22
def L15.c (L00:FuncId):C :=(.seq (.reg [Au 2 (.box (.t 0)),Ac 4 0]) (.seq (.reg [Af 5 0 2,Al 6 5,Am 7 1,Au 8 (.call L00 [.t 6,.t 7]),Am 4 8]) .ret))
def L15.r:List Rr:=[.tmp 4]
abbrev L15.n:Nat:=9
def L12.c (L11 slices_Sort_int_int fn117 L14 L1u:FuncId):C :=(.seq (.reg [Au 3 (.box (.t 0)),Au 4 (.box (.t 1)),Au 6 (.alloc [.nil])]) (.seq (.seq (.reg [Ag 16 1 3,Au 17 (.call L11 [.t 16]),Au 18 (.un .not (.t 17)),Am 19 18,Aw 20 19 (.ld (some 1) (.t 4)),Aw 21 19 (.call L11 [.t 20]),Aw 22 19 (.un .not (.t 21)),Ao 23 19 22]) (.ite (.t 23) (.seq (.reg [Au 24 (.build [.nil] []),As 1 6 24]) .ret) .skip)) (.seq (.reg [Az 7]) (.seq (.seq (.reg [Ag 25 1 3,Ag 26 1 4,Au 27 (.build [.nil,.nil] [(0,1,(.t 25)),(1,1,(.t 26))]),Ac 28 0]) (.blk 0 (.loop (.seq (.reg [Ak .lss 29 28 2]) (.seq (.ite (.t 29) .skip
 (.exit 0)) (.seq (.blk 1 (.seq (.reg [Au 30 (.ix 2 1 (some 1) (.t 27) (.t 28)),Au 9 (.alloc [.nil]),As 1 9 30]) (.seq (.reg [Af 31 0 9,Al 32 31,An 33 0 32,Ac 34 0]) (.blk 2 (.loop (.seq (.reg [Aj .lss 35 34 33]) (.seq (.ite (.t 35) .skip (.exit 2)) (.seq (.blk 3 (.seq (.reg [Ai 36 2 32 34,Ag 37 2 36,Au 11 (.alloc [(.i .i64 0),.nil]),As 2 11 37]) (.reg [Am 38 7,Af 39 0 11,Al 40 39,Au 41 (.bsi 1 1 [(.i .i64 0)] [(0,(.t 40))]),Au 42 (.app 1 8 (.t 38) (.t 41)),Am 7 42]))) (.reg [Ad 43 34 1,Am 34 43]))))))))) (.reg [Ad 44 28 1,Am 28 44]))))))) (.seq (.reg [Am 45 7,Au 46 (.call slices_Sort_int_int [.t 45])])
 (.seq (.reg [Au 12 (.alloc [.nil])]) (.seq (.seq (.reg [Am 47 7,Au 48 (.call fn117 [.t 47]),An 49 0 48,Ac 50 0]) (.blk 4 (.loop (.seq (.reg [Aj .lss 51 50 49]) (.seq (.ite (.t 51) .skip (.exit 4)) (.seq (.blk 5 (.seq (.reg [Ai 52 1 48 50,Al 53 52,Am 14 53]) (.seq (.drw [Am 54 2,Ag 55 1 3,Am 56 14,Au 57 (.call L14 [.t 55,.t 56]),Ag 58 1 4,Am 59 14,Au 60 (.call L14 [.t 58,.t 59]),Au 61 (.callv (.t 54) [.t 57,.t 60]),Am 15 61] [[],[],[],[],[3],[],[],[],[]]) (.seq (.reg [Am 62 15,An 63 0 62,Ak .gtr 64 63 0]) (.ite (.t 64) (.drw [Af 65 0 12,Al 66 65,Am 67 14,Am 68 15,Au 69 (.call L1u [.t 68]),Au 70 (.build [(.i .i64 0),.nil] [(0,1,(.t 67)),(1,1,(.t 69))]),
 Au 71 (.bso 2 1 [(.i .i64 0),.nil] [(0,(.t 70))]),Au 72 (.app 2 32 (.t 66) (.t 71)),Af 73 0 12,As 1 73 72] [[],[],[],[],[0,1],[],[],[],[],[]]) .skip))))) (.reg [Ad 74 50 1,Am 50 74]))))))) (.seq (.reg [Ag 75 1 12,As 1 6 75]) .ret))))))))
def L12.r:List Rr:=[.cell 6 (some 1)]
abbrev L12.n:Nat:=76
def L10.c (L12 L1a:FuncId):C :=(.seq (.reg [Au 2 (.box (.t 0)),Au 3 (.box (.t 1)),Au 4 (.alloc [.nil])]) (.seq (.reg [Ag 5 1 2,Ag 6 1 3,Au 7 (.call L12 [.t 5,.t 6,(.c (.f L1a []))]),As 1 4 7]) .ret))
def L10.r:List Rr:=[.cell 4 (some 1)]
abbrev L10.n:Nat:=8
def L1c.c (L1h:FuncId):C :=(.seq (.reg [Ab 2 false]) (.seq (.seq (.reg [Am 5 0,An 6 0 5,Ac 7 0]) (.blk 0 (.loop (.seq (.reg [Aj .lss 8 7 6]) (.seq (.ite (.t 8) .skip (.exit 0)) (.seq (.blk 1 (.seq (.reg [Am 9 7,Ai 10 2 5 7,Ag 11 2 10,Au 4 (.alloc [(.i .i64 0),(.i .i64 0)]),Am 3 9,As 2 4 11]) (.seq (.drw [Af 12 0 4,Al 13 12,Af 14 1 4,Al 15 14,Aj .geq 16 13 15,Am 17 16,Aw 18 17 (.ld (some 2) (.t 4)),Aw 19 17 (.call L1h [.t 18]),Aw 20 17 (.un .not (.t 19)),Ao 21 17 20,Am 22 21,Aw 23 22 (.mv (.t 3)),Aw 24 22 (.bin .gtr (.t 23) (.c (.i .i64 0))),Aw 25 22 (.mv (.t 24)),Av 26 25 (.fa 0 (.t 4)),Av 27 25 (.ld none (.t 26)),
 Av 28 25 (.mv (.t 0)),Av 29 25 (.mv (.t 3)),Av 30 25 (.bin .sub (.t 29) (.c (.i .i64 1))),Av 31 25 (.ia 2 (.t 28) (.t 30)),Av 32 25 (.fa 1 (.t 31)),Av 33 25 (.ld none (.t 32)),Av 34 25 (.bin .leq (.t 27) (.t 33)),Aw 35 22 (.pick (.t 25) (.t 34) (.c (.b false))),Ao 36 22 35] []) (.ite (.t 36) (.seq (.reg [Ab 2 false]) .ret) .skip)))) (.reg [Ad 37 7 1,Am 7 37]))))))) (.seq (.reg [Ab 2 true]) .ret)))
def L1c.r:List Rr:=[.tmp 2]
abbrev L1c.n:Nat:=38
def L1f.c:C :=(.seq (.reg [Ab 2 false]) (.seq (.drw [Am 3 0,Au 4 (.nck (.t 3)),Af 5 1 4,Al 6 5,Am 7 0,Au 8 (.nck (.t 7)),Af 9 0 8,Al 10 9,An 11 0 10,Au 12 (.bin .mul (.c (.i .i64 2)) (.t 11)),Aj .eql 13 6 12,Am 2 13] []) .ret))
def L1f.r:List Rr:=[.tmp 2]
abbrev L1f.n:Nat:=14
def L1e.c (L1f L1d:FuncId):C :=(.seq (.reg [Ac 2 0]) (.seq (.blk 0 (.seq (.reg [Am 4 0,Au 5 (.call L1f [.t 4]),Am 3 5]) (.ite (.t 3) (.seq (.reg [Ac 2 1048577]) .ret) (.seq (.reg [Am 7 0,Au 8 (.call L1d [.t 7]),Am 6 8]) (.ite (.t 6) (.seq (.drw [Am 9 0,Au 10 (.nck (.t 9)),Af 11 0 10,Al 12 11,Am 13 0,Au 14 (.nck (.t 13)),Af 15 1 14,Al 16 15,Ak .quo 17 16 2,Ai 18 2 12 17,Af 19 1 18,Al 20 19,Am 2 20] []) .ret) .skip))))) (.seq (.drw [Am 21 0,Au 22 (.nck (.t 21)),Af 23 0 22,Al 24 23,Am 25 0,Au 26 (.nck (.t 25)),Af 27 1 26,Al 28 27,Ak .quo 29 28 2,Ai 30 2 24 29,Af 31 0 30,Al 32 31,Am 2 32] []) .ret)))
def L1e.r:List Rr:=[.tmp 2]
abbrev L1e.n:Nat:=33
def L1g.c (L1e:FuncId):C :=(.seq (.reg [Am 4 0,Au 5 (.call L1e [.t 4]),Am 6 1,Aj .eql 7 5 6]) (.ite (.t 7) (.reg [Am 8 0,Au 9 (.nck (.t 8)),Af 10 1 9,Al 11 10,Ad 12 11 1,Au 13 (.nck (.t 8)),Af 14 1 13,As 1 14 12]) .skip))
def L1g.r:List Rr:=[]
abbrev L1g.n:Nat:=15
def L1d.c:C :=(.seq (.reg [Ab 2 false]) (.seq (.reg [Am 3 0,Au 4 (.nck (.t 3)),Af 5 1 4,Al 6 5,Ak .rem 7 6 2,Ak .eql 8 7 1,Am 2 8]) .ret))
def L1d.r:List Rr:=[.tmp 2]
abbrev L1d.n:Nat:=9
def L1j.c (L1c L1f L1e L1g L1d:FuncId):C :=(.seq (.reg [Az 6]) (.seq (.seq (.reg [Am 13 0,Au 14 (.call L1c [.t 13]),Au 15 (.un .not (.t 14)),Am 16 15,Aw 17 16 (.mv (.t 1)),Aw 18 16 (.call L1c [.t 17]),Aw 19 16 (.un .not (.t 18)),Ao 20 16 19]) (.ite (.t 20) (.seq (.reg [Az 6]) .ret) .skip)) (.seq (.reg [Am 21 0,Au 22 (.build [.nil,(.i .i64 0)] [(0,1,(.t 21))]),Au 23 (.box (.t 22)),Am 24 1,Au 25 (.build [.nil,(.i .i64 0)] [(0,1,(.t 24))]),Au 26 (.box (.t 25)),Am 7 23,Am 8 26]) (.seq (.reg [Az 9]) (.seq (.reg [Ab 10 false]) (.seq (.blk 0 (.loop (.seq (.seq (.reg [Am 27 7,Au 28 (.call L1f [.t 27]),
 Au 29 (.un .not (.t 28)),Am 30 29,Aw 31 30 (.mv (.t 8)),Aw 32 30 (.call L1f [.t 31]),Aw 33 30 (.un .not (.t 32)),Ao 34 30 33]) (.ite (.t 34) .skip (.exit 0))) (.blk 1 (.seq (.reg [Am 35 7,Au 36 (.call L1e [.t 35]),Am 37 8,Au 38 (.call L1e [.t 37]),Au 39 (.mn [.t 36,.t 38]),Am 11 39]) (.seq (.reg [Am 40 7,Am 41 11,Au 42 (.call L1g [.t 40,.t 41])]) (.seq (.reg [Am 43 8,Am 44 11,Au 45 (.call L1g [.t 43,.t 44])]) (.seq (.reg [Am 46 2,Am 47 7,Au 48 (.call L1d [.t 47]),Am 49 8,Au 50 (.call L1d [.t 49]),Au 51 (.callv (.t 46) [.t 48,.t 50]),Am 12 51]) (.seq (.blk 2 (.seq (.reg [Am 53 12,Am 54 53,Av 55 54 (.mv (.t 10)),
 Av 56 54 (.un .not (.t 55)),Ap 57 54 56,Am 52 57]) (.ite (.t 52) (.reg [Am 58 9,Am 59 11,Au 60 (.build [(.i .i64 0),(.i .i64 0)] [(0,1,(.t 59))]),Au 61 (.bsi 2 1 [(.i .i64 0),(.i .i64 0)] [(0,(.t 60))]),Au 62 (.app 2 16 (.t 58) (.t 61)),Am 9 62]) (.seq (.reg [Am 64 12,Au 65 (.un .not (.t 64)),Am 66 65,Av 67 66 (.mv (.t 10)),Ap 68 66 67,Am 63 68]) (.ite (.t 63) (.reg [Am 69 9,Am 70 9,An 71 0 70,Ak .sub 72 71 1,Am 73 11,Ai 74 2 69 72,Af 75 1 74,As 1 75 73]) .skip))))) (.reg [Am 76 12,Am 10 76])))))))))) (.seq (.reg [Am 77 9,Am 6 77]) .ret)))))))
def L1j.r:List Rr:=[.tmp 6]
abbrev L1j.n:Nat:=78
def L1a.c (L1j L1b:FuncId):C :=(.seq (.reg [Az 4]) (.seq (.reg [Am 5 0,Am 6 1,Au 7 (.call L1j [.t 5,.t 6,(.c (.f L1b []))]),Am 4 7]) .ret))
def L1a.r:List Rr:=[.tmp 4]
abbrev L1a.n:Nat:=8
def L1b.c:C :=(.seq (.reg [Ab 4 false]) (.seq (.reg [Am 5 0,Am 6 5,Aw 7 6 (.mv (.t 1)),Ao 8 6 7,Am 4 8]) .ret))
def L1b.r:List Rr:=[.tmp 4]
abbrev L1b.n:Nat:=9
def L1t.c:C :=(.seq (.reg [Ac 6 0,Ab 7 false]) (.seq (.reg [Am 12 0,An 13 0 12,Am 8 13]) (.seq (.reg [Am 14 8,Ac 9 0,Am 10 14]) (.seq (.blk 0 (.loop (.seq (.seq (.reg [Am 15 9,Am 16 10,Aj .lss 17 15 16]) (.ite (.t 17) .skip (.exit 0))) (.blk 1 (.seq (.reg [Am 18 9,Am 19 10,Aj .add 20 18 19,Au 21 (.cvi .u64 (.t 20)),Au 22 (.bin .shr (.t 21) (.c (.i .u64 1))),Au 23 (.cvi .i64 (.t 22)),Am 11 23]) (.seq (.reg [Am 24 2,Am 25 0,Am 26 11,Ai 27 2 25 26,Ag 28 2 27,Am 29 1,Au 30 (.callv (.t 24) [.t 28,.t 29]),Ak .lss 31 30 0]) (.ite (.t 31) (.reg [Am 32 11,Ad 33 32 1,Am 9 33]) (.reg [Am 34 11,Am 10 34]))))))))
 (.seq (.reg [Am 35 9,Am 36 9,Am 37 8,Aj .lss 38 36 37,Am 39 38,Av 40 39 (.mv (.t 2)),Av 41 39 (.mv (.t 0)),Av 42 39 (.mv (.t 9)),Av 43 39 (.ia 2 (.t 41) (.t 42)),Av 44 39 (.ld (some 2) (.t 43)),Av 45 39 (.mv (.t 1)),Av 46 39 (.callv (.t 40) [.t 44,.t 45]),Av 47 39 (.bin .eql (.t 46) (.c (.i .i64 0))),Ap 48 39 47,Am 6 35,Am 7 48]) .ret)))))
def L1t.r:List Rr:=[.tmp 6,.tmp 7]
abbrev L1t.n:Nat:=49
def L1u.c:C :=(.seq (.reg [Az 2]) (.seq (.seq (.reg [Am 3 0,Au 4 (.isn false (.t 3))]) (.ite (.t 4) (.seq (.reg [Az 2]) .ret) .skip)) (.seq (.reg [Au 5 (.bso 2 0 [(.i .i64 0),(.i .i64 0)] []),Am 6 0,Au 7 (.app 2 16 (.t 5) (.t 6)),Am 2 7]) .ret)))
def L1u.r:List Rr:=[.tmp 2]
abbrev L1u.n:Nat:=8
def L0y.c:C :=(.seq (.reg [Ab 2 false]) (.seq (.seq (.reg [Ac 3 0]) (.blk 0 (.loop (.seq (.seq (.reg [Am 4 3,Am 5 0,An 6 0 5,Aj .lss 7 4 6]) (.ite (.t 7) .skip (.exit 0))) (.seq (.blk 1 (.seq (.drw [Am 10 0,Am 11 3,Ai 12 2 10 11,Af 13 0 12,Al 14 13,Ak .lss 15 14 (-4096),Am 16 15,Aw 17 16 (.mv (.t 0)),Aw 18 16 (.mv (.t 3)),Aw 19 16 (.ia 2 (.t 17) (.t 18)),Aw 20 16 (.fa 0 (.t 19)),Aw 21 16 (.ld none (.t 20)),Aw 22 16 (.mv (.t 0)),Aw 23 16 (.mv (.t 3)),Aw 24 16 (.ia 2 (.t 22) (.t 23)),Aw 25 16 (.fa 1 (.t 24)),Aw 26 16 (.ld none (.t 25)),Aw 27 16 (.bin .geq (.t 21) (.t 26)),Ao 28 16 27,Am 29 28,Aw 30 29 (.mv (.t 0)),
 Aw 31 29 (.mv (.t 3)),Aw 32 29 (.ia 2 (.t 30) (.t 31)),Aw 33 29 (.fa 1 (.t 32)),Aw 34 29 (.ld none (.t 33)),Aw 35 29 (.bin .gtr (.t 34) (.c (.i .i64 4096))),Ao 36 29 35,Am 37 36,Aw 38 37 (.mv (.t 3)),Aw 39 37 (.bin .gtr (.t 38) (.c (.i .i64 0))),Aw 40 37 (.mv (.t 39)),Av 41 40 (.mv (.t 0)),Av 42 40 (.mv (.t 3)),Av 43 40 (.ia 2 (.t 41) (.t 42)),Av 44 40 (.fa 0 (.t 43)),Av 45 40 (.ld none (.t 44)),Av 46 40 (.mv (.t 0)),Av 47 40 (.mv (.t 3)),Av 48 40 (.bin .sub (.t 47) (.c (.i .i64 1))),Av 49 40 (.ia 2 (.t 46) (.t 48)),Av 50 40 (.fa 1 (.t 49)),Av 51 40 (.ld none (.t 50)),Av 52 40 (.bin .leq (.t 45) (.t 51)),
 Aw 53 37 (.pick (.t 40) (.t 52) (.c (.b false))),Ao 54 37 53] []) (.ite (.t 54) (.seq (.reg [Ab 2 false]) .ret) .skip))) (.reg [Am 8 3,Ad 9 8 1,Am 3 9])))))) (.seq (.reg [Am 55 0,An 56 0 55,Ak .gtr 57 56 0,Am 2 57]) .ret)))
def L0y.r:List Rr:=[.tmp 2]
abbrev L0y.n:Nat:=58
def L0x.c (L0y:FuncId):C :=(.seq (.reg [Au 1 (.box (.t 0)),Ab 2 false]) (.seq (.seq (.reg [Ac 3 0]) (.blk 0 (.loop (.seq (.seq (.reg [Am 5 3,Af 6 0 1,Al 7 6,An 8 0 7,Aj .lss 9 5 8]) (.ite (.t 9) .skip (.exit 0))) (.seq (.blk 1 (.seq (.reg [Af 12 0 1,Al 13 12,Am 14 3,Ai 15 2 13 14,Af 16 0 15,Al 17 16,Am 4 17]) (.seq (.reg [Am 18 4,Ak .lss 19 18 (-4096),Am 20 19,Aw 21 20 (.mv (.t 4)),Aw 22 20 (.bin .geq (.t 21) (.c (.i .i64 4096))),Ao 23 20 22,Am 24 23,Aw 25 24 (.mv (.t 3)),Aw 26 24 (.bin .gtr (.t 25) (.c (.i .i64 0))),Aw 27 24 (.mv (.t 26)),Av 28 27 (.mv (.t 4)),Av 29 27 (.fa 0 (.t 1)),Av 30 27 (.ld none (.t 29)),
 Av 31 27 (.mv (.t 3)),Av 32 27 (.bin .sub (.t 31) (.c (.i .i64 1))),Av 33 27 (.ia 2 (.t 30) (.t 32)),Av 34 27 (.fa 0 (.t 33)),Av 35 27 (.ld none (.t 34)),Av 36 27 (.bin .leq (.t 28) (.t 35)),Aw 37 24 (.pick (.t 27) (.t 36) (.c (.b false))),Ao 38 24 37,Am 39 38,Aw 40 39 (.fa 0 (.t 1)),Aw 41 39 (.ld none (.t 40)),Aw 42 39 (.mv (.t 3)),Aw 43 39 (.ia 2 (.t 41) (.t 42)),Aw 44 39 (.fa 1 (.t 43)),Aw 45 39 (.ld none (.t 44)),Aw 46 39 (.call L0y [.t 45]),Aw 47 39 (.un .not (.t 46)),Ao 48 39 47]) (.ite (.t 48) (.seq (.reg [Ab 2 false]) .ret) .skip)))) (.reg [Am 10 3,Ad 11 10 1,Am 3 11])))))) (.seq (.reg [
 Ab 2 true]) .ret)))
def L0x.r:List Rr:=[.tmp 2]
abbrev L0x.n:Nat:=49
def L0w.c:C :=(.seq (.reg [Au 2 (.box (.t 0)),Au 3 (.box (.t 1)),Ab 4 false]) (.seq (.seq (.reg [Af 9 0 2,Al 10 9,An 11 0 10,Af 12 0 3,Al 13 12,An 14 0 13,Aj .neq 15 11 14]) (.ite (.t 15) (.seq (.reg [Ab 4 false]) .ret) .skip)) (.seq (.seq (.reg [Ac 5 0]) (.blk 0 (.loop (.seq (.seq (.reg [Am 16 5,Af 17 0 2,Al 18 17,An 19 0 18,Aj .lss 20 16 19]) (.ite (.t 20) .skip (.exit 0))) (.seq (.blk 1 (.seq (.drw [Af 23 0 2,Al 24 23,Am 25 5,Ai 26 2 24 25,Ag 27 2 26,Af 28 0 3,Al 29 28,Am 30 5,Ai 31 2 29 30,Ag 32 2 31,Au 6 (.alloc [(.i .i64 0),.nil]),Au 7 (.alloc [(.i .i64 0),.nil]),As 2 6 27,As 2 7 32] [[],[],[],[],[],[],[],[],[],[],[],[],[5,6,8,9],[]])
 (.seq (.seq (.reg [Af 33 0 6,Al 34 33,Af 35 0 7,Al 36 35,Aj .neq 37 34 36,Am 38 37,Aw 39 38 (.fa 1 (.t 6)),Aw 40 38 (.ld none (.t 39)),Aw 41 38 (.len 0 (.t 40)),Aw 42 38 (.fa 1 (.t 7)),Aw 43 38 (.ld none (.t 42)),Aw 44 38 (.len 0 (.t 43)),Aw 45 38 (.bin .neq (.t 41) (.t 44)),Ao 46 38 45]) (.ite (.t 46) (.seq (.reg [Ab 4 false]) .ret) .skip)) (.seq (.reg [Ac 8 0]) (.blk 2 (.loop (.seq (.seq (.reg [Am 47 8,Af 48 1 6,Al 49 48,An 50 0 49,Aj .lss 51 47 50]) (.ite (.t 51) .skip (.exit 2))) (.seq (.blk 3 (.seq (.drw [Af 54 1 6,Al 55 54,Am 56 8,Ai 57 2 55 56,Ag 58 2 57,Af 59 1 7,Al 60 59,Am 61 8,Ai 62 2 60 61,
 Ag 63 2 62,Au 64 (.eqa [1,1] true (.t 58) (.t 63))] []) (.ite (.t 64) (.seq (.reg [Ab 4 false]) .ret) .skip))) (.reg [Am 52 8,Ad 53 52 1,Am 8 53]))))))))) (.reg [Am 21 5,Ad 22 21 1,Am 5 22])))))) (.seq (.reg [Ab 4 true]) .ret))))
def L0w.r:List Rr:=[.tmp 4]
abbrev L0w.n:Nat:=65
def Qqm (P:Program) (f:FuncId):Prop:=∀l:List Rn,RnsV l->RnI l->l≠[]->CallIs P f [Qi l] (.b true)
def Uc (P:Program) (f:FuncId):Prop:=∀g:List Rw,RgV g->RgB g->CallIs P f [rgV g] (.b true)
def rwL (g:List Rw):V:=.l 2 (g.map Rw.cs)
section
variable {P:Program} (hm:P.follows .mixedOrders=true)
include hm
theorem Q51 {f:FuncId} (hf:Q9 P f L0y.c L0y.r L0y.n):Qqm P f:=by
 intro l hl hb hn
 have hll:=hl.len hb
 refine PureC.is (Q8 hm hf (qh rfl) ?_) rfl
 unfold L0y.c
 simp[go_sem,Qi]
 refine Qf (α:=Nat) (λi=>i<=l.length)
  (λi=>⟨[(0,Qi l),(3,.i .i64 i)],[]⟩)
  (λi=>l.length-i) 0 (Nat.zero_le _) ?_ ?_
 ·simp[go_sem,Qi]
 intro i hi
 by_cases hil:i=l.length
 ·subst hil
  have:0<l.length:=jf.2 hn
  simp[go_sem,Qi,this,L0y.r]
 have hlt:i<l.length:=by omega
 have hq:l[i]?=some l[i]:=q9 hlt
 have h1:=hl.1 _ (qb hq)
 have h2:=hb _ (qb hq)
 have hprev:∀j,i=j+1->∃s,l[j]?=some s/\s.b<(l[i]).a:=λj hj=>by
  subst hj
  exact⟨l[j],q9 (by omega),j4.1 hl.2 j (j+1) (by omega) hlt (by omega)⟩
 generalize l[i]=r at *
 obtain⟨_,hq'⟩:=q8.1 hq
 by_cases hi0:i=0
 ·subst hi0
  simp (disch:=omega) [go_sem,Qi,hlt,hq,hq',Rn.cs,show ¬ r.a < -4096 by omega,show ¬ r.b<=r.a by omega,show ¬ 4096<r.b by omega,Q2]
  exact⟨1,by omega,by omega,by omega⟩
 ·obtain⟨j,rfl⟩:∃j,i=j+1:=⟨i-1,by omega⟩
  obtain⟨s,hs,hsr⟩:=hprev j rfl
  obtain⟨hjl,hs'⟩:=q8.1 hs
  have hlz:(j:Int)+1<(l.length:Int):=by omega
  have hz0:(0:Int)<=(j:Int)+1:=by omega
  simp (disch:=omega) [go_sem,Qi,hz0,hlt,hlz,hjl,hq,hq',hs,hs',Rn.cs,show ¬ r.a < -4096 by omega,show ¬ r.b<=r.a by omega,show ¬ 4096<r.b by omega,show ¬ r.a<=s.b by omega,Q2]
  exact⟨j+2,by omega,by omega,by omega⟩
theorem Q36 {f fn:FuncId} (hf:Q9 P f (L0x.c fn) L0x.r L0x.n) (hfn:Qqm P fn):Uc P f:=by
 intro g hg hb
 have hll:=hg.len hb
 refine PureC.is (Q8 hm hf (qh rfl) ?_) rfl
 unfold L0x.c
 simp[go_sem,rgV]
 refine Qf (α:=Nat) (λi=>i<=g.length)
  (λi=>⟨[(1,.p 0 1 0 0),(3,.i .i64 i)],[.arr 1 1 [[rwL g]]]⟩)
  (λi=>g.length-i) 0 (Nat.zero_le _) ?_ ?_
 ·simp[go_sem,rwL]
 intro i hi
 by_cases hil:i=g.length
 ·subst hil
  simp[go_sem,rwL,L0x.r]
 have hlt:i<g.length:=by omega
 have hq:g[i]?=some g[i]:=q9 hlt
 have h1:=hb.yb hg (qb hq)
 have hcall:=hfn _ (hg.rs _ (qb hq)) (hb.rnb hg (qb hq)) (hg.ne _ (qb hq))
 have hprev:∀j,i=j+1->∃s,g[j]?=some s/\s.y<(g[i]).y:=λj hj=>by
  subst hj
  exact⟨g[j],q9 (by omega),j4.1 hg.asc j (j+1) (by omega) hlt (by omega)⟩
 generalize g[i]=w at *
 obtain⟨_,hq'⟩:=q8.1 hq
 by_cases hi0:i=0
 ·subst hi0
  simp (disch:=omega) [go_sem,rwL,hlt,hq,hq',Rw.cs,show ¬ w.y < -4096 by omega,show ¬ 4096<=w.y by omega,Q2]
  refine Q5 hcall ?_
  simp (disch:=omega) [go_sem,rwL,Q2]
  exact⟨1,by omega,by omega,by omega⟩
 ·obtain⟨j,rfl⟩:∃j,i=j+1:=⟨i-1,by omega⟩
  obtain⟨s,hs,hsr⟩:=hprev j rfl
  obtain⟨hjl,hs'⟩:=q8.1 hs
  have hlz:(j:Int)+1<(g.length:Int):=by omega
  simp (disch:=omega) [go_sem,rwL,hlt,hlz,hjl,hq,hq',hs,hs',Rw.cs,show ¬ w.y < -4096 by omega,show ¬ 4096<=w.y by omega,show ¬ w.y<=s.y by omega,Q2]
  refine⟨by omega,Q5 hcall ?_⟩
  simp (disch:=omega) [go_sem,rwL,Q2]
  exact⟨j+2,by omega,by omega,by omega⟩
end
def iel (x:Int):List V:=[.i .i64 x]
theorem Wc (L:List Int) (n:Nat):∀a∈L,∀x∈iel a,x.cl n=true:=λa _ x hx=>by
 simp[iel]at hx
 subst hx
 simp[V.cl,V.cl1,V.cl0]
theorem iel_isD (L:List Int):∀a∈L,∀x∈iel a,x.isD=true:=λa _ x hx=>by
 simp[iel]at hx
 subst hx
 rfl
end Go.Abs
