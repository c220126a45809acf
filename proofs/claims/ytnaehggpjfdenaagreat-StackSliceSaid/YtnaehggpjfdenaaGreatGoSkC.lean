/- Part of the library on which the proof stands: an abstract machine, its values and its soundness against the model; or what functions of the program do to such values. -/
import Derived.Test.YtnaehggpjfdenaaGreatGoShp
import Derived.Test.YtnaehggpjfdenaaGreatGoLpB
import Derived.Test.YtnaehggpjfdenaaGreatGoSkB
import Derived.Test.YtnaehggpjfdenaaGreatGoStD
import Derived.Test.YtnaehggpjfdenaaGreatGoRevC
set_option linter.unusedVariables false
set_option linter.unusedSimpArgs false
set_option maxHeartbeats 8000000
set_option maxRecDepth 20000
namespace Go.Abs
def L1t.c:C :=(.seq (.reg [Ab 2 false]) (.seq (.reg [Am 3 0,Ak .geq 4 3 (-4096),Am 5 4,Av 6 5 (.mv (.t 0)),Av 7 5 (.bin .lss (.t 6) (.c (.i .i64 4096))),Ap 8 5 7,Am 2 8]) .ret))
def L1t.r:List Rr:=[.tmp 2]
abbrev L1t.n:Nat:=9
def L1r.c (L1t L22:FuncId):C :=(.seq (.reg [Au 1 (.box (.t 0)),Ab 2 false]) (.seq (.seq (.reg [Af 5 0 1,Al 6 5,An 7 0 6,Ac 8 0]) (.blk 0 (.loop (.seq (.reg [Aj .lss 9 8 7]) (.seq (.ite (.t 9) .skip (.exit 0)) (.seq (.blk 1 (.seq (.reg [Am 10 8,Ai 11 2 6 8,Ag 12 2 11,Au 4 (.alloc [(.i .i64 0),.nil]),Am 3 10,As 2 4 12]) (.seq (.seq (.drw [Af 13 0 4,Al 14 13,Au 15 (.call L1t [.t 14]),Au 16 (.un .not (.t 15)),Am 17 16,Aw 18 17 (.mv (.t 3)),Aw 19 17 (.bin .gtr (.t 18) (.c (.i .i64 0))),Aw 20 17 (.mv (.t 19)),Av 21 20 (.fa 0 (.t 4)),Av 22 20 (.ld none (.t 21)),Av 23 20 (.fa 0 (.t 1)),Av 24 20 (.ld none (.t 23)),
 Av 25 20 (.mv (.t 3)),Av 26 20 (.bin .sub (.t 25) (.c (.i .i64 1))),Av 27 20 (.ia 2 (.t 24) (.t 26)),Av 28 20 (.fa 0 (.t 27)),Av 29 20 (.ld none (.t 28)),Av 30 20 (.bin .leq (.t 22) (.t 29)),Aw 31 17 (.pick (.t 20) (.t 30) (.c (.b false))),Ao 32 17 31,Am 33 32,Aw 34 33 (.fa 1 (.t 4)),Aw 35 33 (.ld none (.t 34)),Aw 36 33 (.len 0 (.t 35)),Aw 37 33 (.bin .eql (.t 36) (.c (.i .i64 0))),Ao 38 33 37,Am 39 38,Aw 40 39 (.fa 1 (.t 4)),Aw 41 39 (.ld none (.t 40)),Aw 42 39 (.call L22 [.t 41]),Aw 43 39 (.un .not (.t 42)),Ao 44 39 43] []) (.ite (.t 44) (.seq (.reg [Ab 2 false]) .ret) .skip)) (.seq (.reg [
 Af 45 1 4,Al 46 45,Au 47 (.ia 2 (.t 46) (.c (.i .i64 0))),Af 48 0 47,Al 49 48,Au 50 (.call L1t [.t 49]),Au 51 (.un .not (.t 50)),Am 52 51,Aw 53 52 (.fa 1 (.t 4)),Aw 54 52 (.ld none (.t 53)),Aw 55 52 (.fa 1 (.t 4)),Aw 56 52 (.ld none (.t 55)),Aw 57 52 (.len 0 (.t 56)),Aw 58 52 (.bin .sub (.t 57) (.c (.i .i64 1))),Aw 59 52 (.ia 2 (.t 54) (.t 58)),Aw 60 52 (.fa 1 (.t 59)),Aw 61 52 (.ld none (.t 60)),Aw 62 52 (.bin .sub (.t 61) (.c (.i .i64 1))),Aw 63 52 (.call L1t [.t 62]),Aw 64 52 (.un .not (.t 63)),Ao 65 52 64]) (.ite (.t 65) (.seq (.reg [Ab 2 false]) .ret) .skip))))) (.reg [Ad 66 8 1,Am 8 66])))))))
 (.seq (.reg [Ab 2 true]) .ret)))
def L1r.r:List Rr:=[.tmp 2]
abbrev L1r.n:Nat:=67
def L1u.c (L2j L1v:FuncId):C :=(.seq (.reg [Au 2 (.box (.t 0)),Az 4]) (.seq (.reg [Af 8 0 2,Al 9 8,Am 10 1,Au 11 (.call L2j [.t 9,.t 10,(.c (.f L1v []))]),Am 7 11,Ax1 12 0 7,Ax1 13 1 7,Am 5 12,Am 6 13]) (.seq (.seq (.reg [Am 14 6,Au 15 (.un .not (.t 14))]) (.ite (.t 15) (.seq (.reg [Az 4]) .ret) .skip)) (.seq (.reg [Af 16 0 2,Al 17 16,Am 18 5,Ai 19 2 17 18,Af 20 1 19,Al 21 20,Am 4 21]) .ret))))
def L1u.r:List Rr:=[.tmp 4]
abbrev L1u.n:Nat:=22
def L1v.c (L00:FuncId):C :=(.seq (.reg [Au 2 (.box (.t 0)),Ac 4 0]) (.seq (.reg [Af 5 0 2,Al 6 5,Am 7 1,Au 8 (.call L00 [.t 6,.t 7]),Am 4 8]) .ret))
def L1v.r:List Rr:=[.tmp 4]
abbrev L1v.n:Nat:=9
def L1s.c (L1r slices_Sort_int_int fn117 L1u L2k:FuncId):C :=(.seq (.reg [Au 3 (.box (.t 0)),Au 4 (.box (.t 1)),Au 6 (.alloc [.nil])]) (.seq (.seq (.reg [Ag 16 1 3,Au 17 (.call L1r [.t 16]),Au 18 (.un .not (.t 17)),Am 19 18,Aw 20 19 (.ld (some 1) (.t 4)),Aw 21 19 (.call L1r [.t 20]),Aw 22 19 (.un .not (.t 21)),Ao 23 19 22]) (.ite (.t 23) (.seq (.reg [Au 24 (.build [.nil] []),As 1 6 24]) .ret) .skip)) (.seq (.reg [Az 7]) (.seq (.seq (.reg [Ag 25 1 3,Ag 26 1 4,Au 27 (.build [.nil,.nil] [(0,1,(.t 25)),(1,1,(.t 26))]),Ac 28 0]) (.blk 0 (.loop (.seq (.reg [Ak .lss 29 28 2]) (.seq (.ite (.t 29) .skip
 (.exit 0)) (.seq (.blk 1 (.seq (.reg [Au 30 (.ix 2 1 (some 1) (.t 27) (.t 28)),Au 9 (.alloc [.nil]),As 1 9 30]) (.seq (.reg [Af 31 0 9,Al 32 31,An 33 0 32,Ac 34 0]) (.blk 2 (.loop (.seq (.reg [Aj .lss 35 34 33]) (.seq (.ite (.t 35) .skip (.exit 2)) (.seq (.blk 3 (.seq (.reg [Ai 36 2 32 34,Ag 37 2 36,Au 11 (.alloc [(.i .i64 0),.nil]),As 2 11 37]) (.reg [Am 38 7,Af 39 0 11,Al 40 39,Au 41 (.bsi 1 1 [(.i .i64 0)] [(0,(.t 40))]),Au 42 (.app 1 8 (.t 38) (.t 41)),Am 7 42]))) (.reg [Ad 43 34 1,Am 34 43]))))))))) (.reg [Ad 44 28 1,Am 28 44]))))))) (.seq (.reg [Am 45 7,Au 46 (.call slices_Sort_int_int [.t 45])])
 (.seq (.reg [Au 12 (.alloc [.nil])]) (.seq (.seq (.reg [Am 47 7,Au 48 (.call fn117 [.t 47]),An 49 0 48,Ac 50 0]) (.blk 4 (.loop (.seq (.reg [Aj .lss 51 50 49]) (.seq (.ite (.t 51) .skip (.exit 4)) (.seq (.blk 5 (.seq (.reg [Ai 52 1 48 50,Al 53 52,Am 14 53]) (.seq (.drw [Am 54 2,Ag 55 1 3,Am 56 14,Au 57 (.call L1u [.t 55,.t 56]),Ag 58 1 4,Am 59 14,Au 60 (.call L1u [.t 58,.t 59]),Au 61 (.callv (.t 54) [.t 57,.t 60]),Am 15 61] [[],[],[],[],[3],[],[],[],[]]) (.seq (.reg [Am 62 15,An 63 0 62,Ak .gtr 64 63 0]) (.ite (.t 64) (.drw [Af 65 0 12,Al 66 65,Am 67 14,Am 68 15,Au 69 (.call L2k [.t 68]),Au 70 (.build [(.i .i64 0),.nil] [(0,1,(.t 67)),(1,1,(.t 69))]),
 Au 71 (.bso 2 1 [(.i .i64 0),.nil] [(0,(.t 70))]),Au 72 (.app 2 32 (.t 66) (.t 71)),Af 73 0 12,As 1 73 72] [[],[],[],[],[0,1],[],[],[],[],[]]) .skip))))) (.reg [Ad 74 50 1,Am 50 74]))))))) (.seq (.reg [Ag 75 1 12,As 1 6 75]) .ret))))))))
def L1s.r:List Rr:=[.cell 6 (some 1)]
abbrev L1s.n:Nat:=76
def L1q.c (L1s L20:FuncId):C :=(.seq (.reg [Au 2 (.box (.t 0)),Au 3 (.box (.t 1)),Au 4 (.alloc [.nil])]) (.seq (.reg [Ag 5 1 2,Ag 6 1 3,Au 7 (.call L1s [.t 5,.t 6,(.c (.f L20 []))]),As 1 4 7]) .ret))
def L1q.r:List Rr:=[.cell 4 (some 1)]
abbrev L1q.n:Nat:=8
def L22.c (L27:FuncId):C :=(.seq (.reg [Ab 2 false]) (.seq (.seq (.reg [Am 5 0,An 6 0 5,Ac 7 0]) (.blk 0 (.loop (.seq (.reg [Aj .lss 8 7 6]) (.seq (.ite (.t 8) .skip (.exit 0)) (.seq (.blk 1 (.seq (.reg [Am 9 7,Ai 10 2 5 7,Ag 11 2 10,Au 4 (.alloc [(.i .i64 0),(.i .i64 0)]),Am 3 9,As 2 4 11]) (.seq (.drw [Af 12 0 4,Al 13 12,Af 14 1 4,Al 15 14,Aj .geq 16 13 15,Am 17 16,Aw 18 17 (.ld (some 2) (.t 4)),Aw 19 17 (.call L27 [.t 18]),Aw 20 17 (.un .not (.t 19)),Ao 21 17 20,Am 22 21,Aw 23 22 (.mv (.t 3)),Aw 24 22 (.bin .gtr (.t 23) (.c (.i .i64 0))),Aw 25 22 (.mv (.t 24)),Av 26 25 (.fa 0 (.t 4)),Av 27 25 (.ld none (.t 26)),
 Av 28 25 (.mv (.t 0)),Av 29 25 (.mv (.t 3)),Av 30 25 (.bin .sub (.t 29) (.c (.i .i64 1))),Av 31 25 (.ia 2 (.t 28) (.t 30)),Av 32 25 (.fa 1 (.t 31)),Av 33 25 (.ld none (.t 32)),Av 34 25 (.bin .leq (.t 27) (.t 33)),Aw 35 22 (.pick (.t 25) (.t 34) (.c (.b false))),Ao 36 22 35] []) (.ite (.t 36) (.seq (.reg [Ab 2 false]) .ret) .skip)))) (.reg [Ad 37 7 1,Am 7 37]))))))) (.seq (.reg [Ab 2 true]) .ret)))
def L22.r:List Rr:=[.tmp 2]
abbrev L22.n:Nat:=38
def L25.c:C :=(.seq (.reg [Ab 2 false]) (.seq (.drw [Am 3 0,Au 4 (.nck (.t 3)),Af 5 1 4,Al 6 5,Am 7 0,Au 8 (.nck (.t 7)),Af 9 0 8,Al 10 9,An 11 0 10,Au 12 (.bin .mul (.c (.i .i64 2)) (.t 11)),Aj .eql 13 6 12,Am 2 13] []) .ret))
def L25.r:List Rr:=[.tmp 2]
abbrev L25.n:Nat:=14
def L24.c (L25 L23:FuncId):C :=(.seq (.reg [Ac 2 0]) (.seq (.blk 0 (.seq (.reg [Am 4 0,Au 5 (.call L25 [.t 4]),Am 3 5]) (.ite (.t 3) (.seq (.reg [Ac 2 1048577]) .ret) (.seq (.reg [Am 7 0,Au 8 (.call L23 [.t 7]),Am 6 8]) (.ite (.t 6) (.seq (.drw [Am 9 0,Au 10 (.nck (.t 9)),Af 11 0 10,Al 12 11,Am 13 0,Au 14 (.nck (.t 13)),Af 15 1 14,Al 16 15,Ak .quo 17 16 2,Ai 18 2 12 17,Af 19 1 18,Al 20 19,Am 2 20] []) .ret) .skip))))) (.seq (.drw [Am 21 0,Au 22 (.nck (.t 21)),Af 23 0 22,Al 24 23,Am 25 0,Au 26 (.nck (.t 25)),Af 27 1 26,Al 28 27,Ak .quo 29 28 2,Ai 30 2 24 29,Af 31 0 30,Al 32 31,Am 2 32] []) .ret)))
def L24.r:List Rr:=[.tmp 2]
abbrev L24.n:Nat:=33
def L26.c (L24:FuncId):C :=(.seq (.reg [Am 4 0,Au 5 (.call L24 [.t 4]),Am 6 1,Aj .eql 7 5 6]) (.ite (.t 7) (.reg [Am 8 0,Au 9 (.nck (.t 8)),Af 10 1 9,Al 11 10,Ad 12 11 1,Au 13 (.nck (.t 8)),Af 14 1 13,As 1 14 12]) .skip))
def L26.r:List Rr:=[]
abbrev L26.n:Nat:=15
def L23.c:C :=(.seq (.reg [Ab 2 false]) (.seq (.reg [Am 3 0,Au 4 (.nck (.t 3)),Af 5 1 4,Al 6 5,Ak .rem 7 6 2,Ak .eql 8 7 1,Am 2 8]) .ret))
def L23.r:List Rr:=[.tmp 2]
abbrev L23.n:Nat:=9
def L29.c (L22 L25 L24 L26 L23:FuncId):C :=(.seq (.reg [Az 6]) (.seq (.seq (.reg [Am 13 0,Au 14 (.call L22 [.t 13]),Au 15 (.un .not (.t 14)),Am 16 15,Aw 17 16 (.mv (.t 1)),Aw 18 16 (.call L22 [.t 17]),Aw 19 16 (.un .not (.t 18)),Ao 20 16 19]) (.ite (.t 20) (.seq (.reg [Az 6]) .ret) .skip)) (.seq (.reg [Am 21 0,Au 22 (.build [.nil,(.i .i64 0)] [(0,1,(.t 21))]),Au 23 (.box (.t 22)),Am 24 1,Au 25 (.build [.nil,(.i .i64 0)] [(0,1,(.t 24))]),Au 26 (.box (.t 25)),Am 7 23,Am 8 26]) (.seq (.reg [Az 9]) (.seq (.reg [Ab 10 false]) (.seq (.blk 0 (.loop (.seq (.seq (.reg [Am 27 7,Au 28 (.call L25 [.t 27]),
 Au 29 (.un .not (.t 28)),Am 30 29,Aw 31 30 (.mv (.t 8)),Aw 32 30 (.call L25 [.t 31]),Aw 33 30 (.un .not (.t 32)),Ao 34 30 33]) (.ite (.t 34) .skip (.exit 0))) (.blk 1 (.seq (.reg [Am 35 7,Au 36 (.call L24 [.t 35]),Am 37 8,Au 38 (.call L24 [.t 37]),Au 39 (.mn [.t 36,.t 38]),Am 11 39]) (.seq (.reg [Am 40 7,Am 41 11,Au 42 (.call L26 [.t 40,.t 41])]) (.seq (.reg [Am 43 8,Am 44 11,Au 45 (.call L26 [.t 43,.t 44])]) (.seq (.reg [Am 46 2,Am 47 7,Au 48 (.call L23 [.t 47]),Am 49 8,Au 50 (.call L23 [.t 49]),Au 51 (.callv (.t 46) [.t 48,.t 50]),Am 12 51]) (.seq (.blk 2 (.seq (.reg [Am 53 12,Am 54 53,Av 55 54 (.mv (.t 10)),
 Av 56 54 (.un .not (.t 55)),Ap 57 54 56,Am 52 57]) (.ite (.t 52) (.reg [Am 58 9,Am 59 11,Au 60 (.build [(.i .i64 0),(.i .i64 0)] [(0,1,(.t 59))]),Au 61 (.bsi 2 1 [(.i .i64 0),(.i .i64 0)] [(0,(.t 60))]),Au 62 (.app 2 16 (.t 58) (.t 61)),Am 9 62]) (.seq (.reg [Am 64 12,Au 65 (.un .not (.t 64)),Am 66 65,Av 67 66 (.mv (.t 10)),Ap 68 66 67,Am 63 68]) (.ite (.t 63) (.reg [Am 69 9,Am 70 9,An 71 0 70,Ak .sub 72 71 1,Am 73 11,Ai 74 2 69 72,Af 75 1 74,As 1 75 73]) .skip))))) (.reg [Am 76 12,Am 10 76])))))))))) (.seq (.reg [Am 77 9,Am 6 77]) .ret)))))))
def L29.r:List Rr:=[.tmp 6]
abbrev L29.n:Nat:=78
def L20.c (L29 L21:FuncId):C :=(.seq (.reg [Az 4]) (.seq (.reg [Am 5 0,Am 6 1,Au 7 (.call L29 [.t 5,.t 6,(.c (.f L21 []))]),Am 4 7]) .ret))
def L20.r:List Rr:=[.tmp 4]
abbrev L20.n:Nat:=8
def L21.c:C :=(.seq (.reg [Ab 4 false]) (.seq (.reg [Am 5 0,Am 6 5,Aw 7 6 (.mv (.t 1)),Ao 8 6 7,Am 4 8]) .ret))
def L21.r:List Rr:=[.tmp 4]
abbrev L21.n:Nat:=9
def L2j.c:C :=(.seq (.reg [Ac 6 0,Ab 7 false]) (.seq (.reg [Am 12 0,An 13 0 12,Am 8 13]) (.seq (.reg [Am 14 8,Ac 9 0,Am 10 14]) (.seq (.blk 0 (.loop (.seq (.seq (.reg [Am 15 9,Am 16 10,Aj .lss 17 15 16]) (.ite (.t 17) .skip (.exit 0))) (.blk 1 (.seq (.reg [Am 18 9,Am 19 10,Aj .add 20 18 19,Au 21 (.cvi .u64 (.t 20)),Au 22 (.bin .shr (.t 21) (.c (.i .u64 1))),Au 23 (.cvi .i64 (.t 22)),Am 11 23]) (.seq (.reg [Am 24 2,Am 25 0,Am 26 11,Ai 27 2 25 26,Ag 28 2 27,Am 29 1,Au 30 (.callv (.t 24) [.t 28,.t 29]),Ak .lss 31 30 0]) (.ite (.t 31) (.reg [Am 32 11,Ad 33 32 1,Am 9 33]) (.reg [Am 34 11,Am 10 34]))))))))
 (.seq (.reg [Am 35 9,Am 36 9,Am 37 8,Aj .lss 38 36 37,Am 39 38,Av 40 39 (.mv (.t 2)),Av 41 39 (.mv (.t 0)),Av 42 39 (.mv (.t 9)),Av 43 39 (.ia 2 (.t 41) (.t 42)),Av 44 39 (.ld (some 2) (.t 43)),Av 45 39 (.mv (.t 1)),Av 46 39 (.callv (.t 40) [.t 44,.t 45]),Av 47 39 (.bin .eql (.t 46) (.c (.i .i64 0))),Ap 48 39 47,Am 6 35,Am 7 48]) .ret)))))
def L2j.r:List Rr:=[.tmp 6,.tmp 7]
abbrev L2j.n:Nat:=49
def L2k.c:C :=(.seq (.reg [Az 2]) (.seq (.seq (.reg [Am 3 0,Au 4 (.isn false (.t 3))]) (.ite (.t 4) (.seq (.reg [Az 2]) .ret) .skip)) (.seq (.reg [Au 5 (.bso 2 0 [(.i .i64 0),(.i .i64 0)] []),Am 6 0,Au 7 (.app 2 16 (.t 5) (.t 6)),Am 2 7]) .ret)))
def L2k.r:List Rr:=[.tmp 2]
abbrev L2k.n:Nat:=8
def L1e.c:C :=(.seq (.reg [Au 2 (.box (.t 0)),Au 3 (.box (.t 1)),Ab 4 false]) (.seq (.seq (.reg [Af 9 0 2,Al 10 9,An 11 0 10,Af 12 0 3,Al 13 12,An 14 0 13,Aj .neq 15 11 14]) (.ite (.t 15) (.seq (.reg [Ab 4 false]) .ret) .skip)) (.seq (.seq (.reg [Ac 5 0]) (.blk 0 (.loop (.seq (.seq (.reg [Am 16 5,Af 17 0 2,Al 18 17,An 19 0 18,Aj .lss 20 16 19]) (.ite (.t 20) .skip (.exit 0))) (.seq (.blk 1 (.seq (.drw [Af 23 0 2,Al 24 23,Am 25 5,Ai 26 2 24 25,Ag 27 2 26,Af 28 0 3,Al 29 28,Am 30 5,Ai 31 2 29 30,Ag 32 2 31,Au 6 (.alloc [(.i .i64 0),.nil]),Au 7 (.alloc [(.i .i64 0),.nil]),As 2 6 27,As 2 7 32] [[],[],[],[],[],[],[],[],[],[],[],[],[5,6,8,9],[]])
 (.seq (.seq (.reg [Af 33 0 6,Al 34 33,Af 35 0 7,Al 36 35,Aj .neq 37 34 36,Am 38 37,Aw 39 38 (.fa 1 (.t 6)),Aw 40 38 (.ld none (.t 39)),Aw 41 38 (.len 0 (.t 40)),Aw 42 38 (.fa 1 (.t 7)),Aw 43 38 (.ld none (.t 42)),Aw 44 38 (.len 0 (.t 43)),Aw 45 38 (.bin .neq (.t 41) (.t 44)),Ao 46 38 45]) (.ite (.t 46) (.seq (.reg [Ab 4 false]) .ret) .skip)) (.seq (.reg [Ac 8 0]) (.blk 2 (.loop (.seq (.seq (.reg [Am 47 8,Af 48 1 6,Al 49 48,An 50 0 49,Aj .lss 51 47 50]) (.ite (.t 51) .skip (.exit 2))) (.seq (.blk 3 (.seq (.drw [Af 54 1 6,Al 55 54,Am 56 8,Ai 57 2 55 56,Ag 58 2 57,Af 59 1 7,Al 60 59,Am 61 8,Ai 62 2 60 61,
 Ag 63 2 62,Au 64 (.eqa [1,1] true (.t 58) (.t 63))] []) (.ite (.t 64) (.seq (.reg [Ab 4 false]) .ret) .skip))) (.reg [Am 52 8,Ad 53 52 1,Am 8 53]))))))))) (.reg [Am 21 5,Ad 22 21 1,Am 5 22])))))) (.seq (.reg [Ab 4 true]) .ret))))
def L1e.r:List Rr:=[.tmp 4]
abbrev L1e.n:Nat:=65
def Qcw (P:Program) (f:FuncId):Prop:=∀g:List Rw,RgV g->RgB g->CallIs P f [rgV g] (.b true)
def rwL (g:List Rw):V:=.l 2 (g.map Rw.cs)
def iel (x:Int):List V:=[.i .i64 x]
theorem U5 (L:List Int) (n:Nat):∀a∈L,∀x∈iel a,x.cl n=true:=λa _ x hx=>by
 simp[iel]at hx
 subst hx
 simp[V.cl,V.cl1,V.cl0]
theorem iel_isD (L:List Int):∀a∈L,∀x∈iel a,x.isD=true:=λa _ x hx=>by
 simp[iel]at hx
 subst hx
 rfl
def Q2n (P:Program) (f:FuncId):Prop:=∀n lo hi:Int,0<=lo->CallIs P f [.i .i64 n,.i .i64 lo,.i .i64 hi] (.b (Za n lo hi))
def HgtC (P:Program) (f:FuncId):Prop:=∀top h:Int,top<=9223372036854775807->-9223372036854775808<=top->CallIs P f [.i .i64 top,.i .i64 h] (.t [isV (Q1m top h).1,.i .i64 (Q1m top h).2])
def Que (P:Program) (f:FuncId):Prop:=Qv P f=true/\∀a b c:Int,CallIs P f [.i .i64 a,.i .i64 b,.i .i64 c] (.t [.i .i64 (min a c),.i .i64 (max b c)])
def Q7d (P:Program) (f:FuncId):Prop:=∀l:List V3,l.length<=1000000->CallIs P f [vsV l] (.t [(bLo l).enc,(bHi l).enc,.b (decide (l≠[]))])
def Quf (P:Program) (f:FuncId):Prop:=∀m:Mesh,m.check=0->CallIs P f [m.enc] (.t [(bLo m.verts).enc,(bHi m.verts).enc,.b (decide (m.verts≠[]))])
section
variable {P:Program} (hm:P.follows .mixedOrders=true)
include hm
theorem Ep {f:FuncId} (hf:Q9 P f L2p.c L2p.r L2p.n):Q2n P f:=by
 intro n lo hi h0
 refine PureC.is (Q6 hm hf (qh rfl) ?_) rfl
 unfold L2p.c Za
 by_cases h1:lo<=n
 ·by_cases h2:n<=hi
  ·have ht:n.tmod 2=n % 2:=jr (by omega)
   have w:=Q0 (z:=n % 2) (by omega) (by omega)
   by_cases h3:n % 2=0
   ·simp[go_sem,h1,h2,ht,h3,L2p.r]
   ·have hb:(n % 2 == 0)=false:=by simpa using h3
    simp[go_sem,h1,h2,ht,w,h3,hb,L2p.r]
  ·simp[go_sem,h1,h2,L2p.r]
 ·simp[go_sem,h1,L2p.r]
theorem Q7u {f:FuncId} (hf:Q9 P f L1p.c L1p.r L1p.n):Q2n P f:=Ep hm hf
theorem Q0j {f fe:FuncId} (hf:Q9 P f (L2m.c fe) L2m.r L2m.n) (he:Q2n P fe):HgtC P f:=by
 intro top h ht1 ht2
 have hec:=he h 4 1024 (by omega)
 unfold Q1m
 cases hev:Za h 4 1024 with
 | false =>
   rw[hev]at hec
   rw[if_pos rfl]
   refine CallIs.res (r:=.t [.nil,.i .i64 1]) ?_ (.inr ⟨_,_,rfl,rfl,.inl (Le0.nil 1),Le1.refl _,trivial⟩)
   refine PureC.is (Q6 hm hf (qh rfl) ?_) rfl
   unfold L2m.c
   simp[go_sem]
   refine Q4 hec ?_
   simp[go_sem,L2m.r]
 | true =>
   rw[hev]at hec
   rw[if_neg (by simp)]
   have hh:4<=h/\h<=1024/\h % 2=0:=by
    unfold Za at hev
    simp only[Bool.and_eq_true,decide_eq_true_eq]at hev
    omega
   have hq:h.tdiv 2=h / 2:=Int.tdiv_eq_ediv_of_nonneg (by omega)
   have hlt:=λi:Nat=>Qjw (top:=top) (h:=h) (by omega) (i:=i)
   have hmb:∀i:Nat,i<=257->0<=(i:Int)*h/\(i:Int)*h<=257*1024:=λi hi=>by
    refine⟨Int.mul_nonneg (by omega) (by omega),?_⟩
    exact Int.le_trans (jm (show (i:Int)<=257 by omega) (by omega)) (by omega)
   generalize Qf3 top h=N at *
   by_cases hN:256<N
   ·rw[if_pos hN]
    refine CallIs.res (r:=.t [.nil,.i .i64 2]) ?_ (.inr ⟨_,_,rfl,rfl,.inl (Le0.nil 1),Le1.refl _,trivial⟩)
    refine PureC.is (Q6 hm hf (qh rfl) ?_) rfl
    unfold L2m.c
    simp[go_sem]
    refine Q4 hec ?_
    simp (disch:=omega) [go_sem,hq,Q0]
    refine Qx [.t 6 1] (α:=Nat) (λi=>i<=256)
     (λi=>⟨[(0,.i .i64 top),(1,.i .i64 h),(6,.own 0 (i+1) 0 i),(7,.i .i64 ((i:Int)*h+h / 2))],[.arr (i+1) 1 ((Wa h i).map iel)]⟩)
     (λi=>256-i) 0 (Nat.zero_le _) ?_ ?_
    ·simp[go_sem,Wa]
    intro i hi
    have hl:=U6 h i
    have c1:=(hlt i).1 (by omega)
    have c2:=hmb i (by omega)
    have c3:=Q9j h i
    have c4:((i+1:Nat):Int)*h=i*h+h:=by push_cast;grind
    have c5:(i:Int)<256->i+1<=256:=by omega
    have ht:List.take i ((Wa h i).map iel)=(Wa h i).map iel:=qe (by simp[hl])
    by_cases hi2:i=256
    ·subst hi2
     have c1b:(256:Int)*h+h / 2<top:=by simpa using c1
     simp (disch:=omega) [go_sem,c1b,L2m.r]
    ·have hie:((i:Int) == 256)=false:=by simp;omega
     have hie2:¬ (i:Int)=256:=by omega
     generalize (i:Int)*h=M at *
     simp (disch:=omega) [go_sem,c1,hie,hie2,hl,ht,Q0]
     exact⟨⟨by omega,by omega⟩,i+1,by omega,by omega,⟨rfl,by omega⟩,⟨rfl,by rw[c3];simp[iel]⟩,U5 _ _⟩
   ·rw[if_neg hN]
    refine PureC.is (Q6 hm hf (qh rfl) ?_) rfl
    unfold L2m.c
    simp[go_sem]
    refine Q4 hec ?_
    simp (disch:=omega) [go_sem,hq,Q0]
    refine Qx [.t 6 1] (α:=Nat) (λi=>i<=N)
     (λi=>⟨[(0,.i .i64 top),(1,.i .i64 h),(6,.own 0 (i+1) 0 i),(7,.i .i64 ((i:Int)*h+h / 2))],[.arr (i+1) 1 ((Wa h i).map iel)]⟩)
     (λi=>N-i) 0 (Nat.zero_le _) ?_ ?_
    ·simp[go_sem,Wa]
    intro i hi
    have hl:=U6 h i
    have c2:=hmb i (by omega)
    have c3:=Q9j h i
    have c4:((i+1:Nat):Int)*h=i*h+h:=by push_cast;grind
    have ht:List.take i ((Wa h i).map iel)=(Wa h i).map iel:=qe (by simp[hl])
    by_cases hin:i<N
    ·have c1:=(hlt i).1 hin
     have hie:((i:Int) == 256)=false:=by simp;omega
     have hie2:¬ (i:Int)=256:=by omega
     generalize (i:Int)*h=M at *
     simp (disch:=omega) [go_sem,c1,hie,hie2,hl,ht,Q0]
     exact⟨⟨by omega,by omega⟩,i+1,by omega,by omega,⟨rfl,by omega⟩,⟨rfl,by rw[c3];simp[iel]⟩,U5 _ _⟩
    ·obtain rfl:i=N:=by omega
     have c1:¬ (i:Int)*h+h / 2<top:=λhh=>hin ((hlt i).2 hh)
     simp (disch:=omega) [go_sem,c1,hl,ht,L2m.r]
     rw[if_pos (iel_isD _)];rfl
theorem Q2o {f:FuncId} (hf:Q9 P f L31.c L31.r L31.n) (hcb:Qv P f=true):Que P f:=by
 refine⟨hcb,λa b c=>?_⟩
 refine PureC.is (Q6 hm hf (qh rfl) ?_) rfl
 unfold L31.c
 have e1:(if c<a then c else a)=min a c:=by split<;>omega
 have e2:(if b<c then c else b)=max b c:=by split<;>omega
 simp[go_sem,e1,e2,L31.r]
end
end Go.Abs
