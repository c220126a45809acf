/- Part of the library on which the proof stands: an abstract machine, its values and its soundness against the model; or what functions of the program do to such values. -/
import Derived.Test.YtnaehggpjfdenaaGreatGoShp
import Derived.Test.YtnaehggpjfdenaaGreatGoMapG
import Derived.Test.YtnaehggpjfdenaaGreatGoStD
set_option linter.unusedVariables false
set_option linter.unusedSimpArgs false
set_option maxHeartbeats 8000000
set_option maxRecDepth 20000
namespace Go.Abs
def L11.c:C :=(.seq (.reg [Ab 2 false]) (.seq (.reg [Am 3 0,Ak .geq 4 3 (-4096),Am 5 4,Av 6 5 (.mv (.t 0)),Av 7 5 (.bin .lss (.t 6) (.c (.i .i64 4096))),Ap 8 5 7,Am 2 8]) .ret))
def L11.r:List Rr:=[.tmp 2]
abbrev L11.n:Nat:=9
def L0z.c (L11 L1a:FuncId):C :=(.seq (.reg [Au 1 (.box (.t 0)),Ab 2 false]) (.seq (.seq (.reg [Af 5 0 1,Al 6 5,An 7 0 6,Ac 8 0]) (.blk 0 (.loop (.seq (.reg [Aj .lss 9 8 7]) (.seq (.ite (.t 9) .skip (.exit 0)) (.seq (.blk 1 (.seq (.reg [Am 10 8,Ai 11 2 6 8,Ag 12 2 11,Au 4 (.alloc [(.i .i64 0),.nil]),Am 3 10,As 2 4 12]) (.seq (.seq (.drw [Af 13 0 4,Al 14 13,Au 15 (.call L11 [.t 14]),Au 16 (.un .not (.t 15)),Am 17 16,Aw 18 17 (.mv (.t 3)),Aw 19 17 (.bin .gtr (.t 18) (.c (.i .i64 0))),Aw 20 17 (.mv (.t 19)),Av 21 20 (.fa 0 (.t 4)),Av 22 20 (.ld none (.t 21)),Av 23 20 (.fa 0 (.t 1)),Av 24 20 (.ld none (.t 23)),
 Av 25 20 (.mv (.t 3)),Av 26 20 (.bin .sub (.t 25) (.c (.i .i64 1))),Av 27 20 (.ia 2 (.t 24) (.t 26)),Av 28 20 (.fa 0 (.t 27)),Av 29 20 (.ld none (.t 28)),Av 30 20 (.bin .leq (.t 22) (.t 29)),Aw 31 17 (.pick (.t 20) (.t 30) (.c (.b false))),Ao 32 17 31,Am 33 32,Aw 34 33 (.fa 1 (.t 4)),Aw 35 33 (.ld none (.t 34)),Aw 36 33 (.len 0 (.t 35)),Aw 37 33 (.bin .eql (.t 36) (.c (.i .i64 0))),Ao 38 33 37,Am 39 38,Aw 40 39 (.fa 1 (.t 4)),Aw 41 39 (.ld none (.t 40)),Aw 42 39 (.call L1a [.t 41]),Aw 43 39 (.un .not (.t 42)),Ao 44 39 43] []) (.ite (.t 44) (.seq (.reg [Ab 2 false]) .ret) .skip)) (.seq (.reg [
 Af 45 1 4,Al 46 45,Au 47 (.ia 2 (.t 46) (.c (.i .i64 0))),Af 48 0 47,Al 49 48,Au 50 (.call L11 [.t 49]),Au 51 (.un .not (.t 50)),Am 52 51,Aw 53 52 (.fa 1 (.t 4)),Aw 54 52 (.ld none (.t 53)),Aw 55 52 (.fa 1 (.t 4)),Aw 56 52 (.ld none (.t 55)),Aw 57 52 (.len 0 (.t 56)),Aw 58 52 (.bin .sub (.t 57) (.c (.i .i64 1))),Aw 59 52 (.ia 2 (.t 54) (.t 58)),Aw 60 52 (.fa 1 (.t 59)),Aw 61 52 (.ld none (.t 60)),Aw 62 52 (.bin .sub (.t 61) (.c (.i .i64 1))),Aw 63 52 (.call L11 [.t 62]),Aw 64 52 (.un .not (.t 63)),Ao 65 52 64]) (.ite (.t 65) (.seq (.reg [Ab 2 false]) .ret) .skip))))) (.reg [Ad 66 8 1,Am 8 66])))))))
 (.seq (.reg [Ab 2 true]) .ret)))
def L0z.r:List Rr:=[.tmp 2]
abbrev L0z.n:Nat:=67
def L12.c (L1r L13:FuncId):C :=(.seq (.reg [Au 2 (.box (.t 0)),Az 4]) (.seq (.reg [Af 8 0 2,Al 9 8,Am 10 1,Au 11 (.call L1r [.t 9,.t 10,(.c (.f L13 []))]),Am 7 11,Ax1 12 0 7,Ax1 13 1 7,Am 5 12,Am 6 13]) (.seq (.seq (.reg [Am 14 6,Au 15 (.un .not (.t 14))]) (.ite (.t 15) (.seq (.reg [Az 4]) .ret) .skip)) (.seq (.reg [Af 16 0 2,Al 17 16,Am 18 5,Ai 19 2 17 18,Af 20 1 19,Al 21 20,Am 4 21]) .ret))))
def L12.r:List Rr:=[.tmp 4]
abbrev L12.n:Nat:=22
def L13.c (L00:FuncId):C :=(.seq (.reg [Au 2 (.box (.t 0)),Ac 4 0]) (.seq (.reg [Af 5 0 2,Al 6 5,Am 7 1,Au 8 (.call L00 [.t 6,.t 7]),Am 4 8]) .ret))
def L13.r:List Rr:=[.tmp 4]
abbrev L13.n:Nat:=9
def L10.c (L0z slices_Sort_int_int fn117 L12 L1s:FuncId):C :=(.seq (.reg [Au 3 (.box (.t 0)),Au 4 (.box (.t 1)),Au 6 (.alloc [.nil])]) (.seq (.seq (.reg [Ag 16 1 3,Au 17 (.call L0z [.t 16]),Au 18 (.un .not (.t 17)),Am 19 18,Aw 20 19 (.ld (some 1) (.t 4)),Aw 21 19 (.call L0z [.t 20]),Aw 22 19 (.un .not (.t 21)),Ao 23 19 22]) (.ite (.t 23) (.seq (.reg [Au 24 (.build [.nil] []),As 1 6 24]) .ret) .skip)) (.seq (.reg [Az 7]) (.seq (.seq (.reg [Ag 25 1 3,Ag 26 1 4,Au 27 (.build [.nil,.nil] [(0,1,(.t 25)),(1,1,(.t 26))]),Ac 28 0]) (.blk 0 (.loop (.seq (.reg [Ak .lss 29 28 2]) (.seq (.ite (.t 29) .skip
 (.exit 0)) (.seq (.blk 1 (.seq (.reg [Au 30 (.ix 2 1 (some 1) (.t 27) (.t 28)),Au 9 (.alloc [.nil]),As 1 9 30]) (.seq (.reg [Af 31 0 9,Al 32 31,An 33 0 32,Ac 34 0]) (.blk 2 (.loop (.seq (.reg [Aj .lss 35 34 33]) (.seq (.ite (.t 35) .skip (.exit 2)) (.seq (.blk 3 (.seq (.reg [Ai 36 2 32 34,Ag 37 2 36,Au 11 (.alloc [(.i .i64 0),.nil]),As 2 11 37]) (.reg [Am 38 7,Af 39 0 11,Al 40 39,Au 41 (.bsi 1 1 [(.i .i64 0)] [(0,(.t 40))]),Au 42 (.app 1 8 (.t 38) (.t 41)),Am 7 42]))) (.reg [Ad 43 34 1,Am 34 43]))))))))) (.reg [Ad 44 28 1,Am 28 44]))))))) (.seq (.reg [Am 45 7,Au 46 (.call slices_Sort_int_int [.t 45])])
 (.seq (.reg [Au 12 (.alloc [.nil])]) (.seq (.seq (.reg [Am 47 7,Au 48 (.call fn117 [.t 47]),An 49 0 48,Ac 50 0]) (.blk 4 (.loop (.seq (.reg [Aj .lss 51 50 49]) (.seq (.ite (.t 51) .skip (.exit 4)) (.seq (.blk 5 (.seq (.reg [Ai 52 1 48 50,Al 53 52,Am 14 53]) (.seq (.drw [Am 54 2,Ag 55 1 3,Am 56 14,Au 57 (.call L12 [.t 55,.t 56]),Ag 58 1 4,Am 59 14,Au 60 (.call L12 [.t 58,.t 59]),Au 61 (.callv (.t 54) [.t 57,.t 60]),Am 15 61] [[],[],[],[],[3],[],[],[],[]]) (.seq (.reg [Am 62 15,An 63 0 62,Ak .gtr 64 63 0]) (.ite (.t 64) (.drw [Af 65 0 12,Al 66 65,Am 67 14,Am 68 15,Au 69 (.call L1s [.t 68]),Au 70 (.build [(.i .i64 0),.nil] [(0,1,(.t 67)),(1,1,(.t 69))]),
 Au 71 (.bso 2 1 [(.i .i64 0),.nil] [(0,(.t 70))]),Au 72 (.app 2 32 (.t 66) (.t 71)),Af 73 0 12,As 1 73 72] [[],[],[],[],[0,1],[],[],[],[],[]]) .skip))))) (.reg [Ad 74 50 1,Am 50 74]))))))) (.seq (.reg [Ag 75 1 12,As 1 6 75]) .ret))))))))
def L10.r:List Rr:=[.cell 6 (some 1)]
abbrev L10.n:Nat:=76
def L0y.c (L10 L18:FuncId):C :=(.seq (.reg [Au 2 (.box (.t 0)),Au 3 (.box (.t 1)),Au 4 (.alloc [.nil])]) (.seq (.reg [Ag 5 1 2,Ag 6 1 3,Au 7 (.call L10 [.t 5,.t 6,(.c (.f L18 []))]),As 1 4 7]) .ret))
def L0y.r:List Rr:=[.cell 4 (some 1)]
abbrev L0y.n:Nat:=8
def L1a.c (L1f:FuncId):C :=(.seq (.reg [Ab 2 false]) (.seq (.seq (.reg [Am 5 0,An 6 0 5,Ac 7 0]) (.blk 0 (.loop (.seq (.reg [Aj .lss 8 7 6]) (.seq (.ite (.t 8) .skip (.exit 0)) (.seq (.blk 1 (.seq (.reg [Am 9 7,Ai 10 2 5 7,Ag 11 2 10,Au 4 (.alloc [(.i .i64 0),(.i .i64 0)]),Am 3 9,As 2 4 11]) (.seq (.drw [Af 12 0 4,Al 13 12,Af 14 1 4,Al 15 14,Aj .geq 16 13 15,Am 17 16,Aw 18 17 (.ld (some 2) (.t 4)),Aw 19 17 (.call L1f [.t 18]),Aw 20 17 (.un .not (.t 19)),Ao 21 17 20,Am 22 21,Aw 23 22 (.mv (.t 3)),Aw 24 22 (.bin .gtr (.t 23) (.c (.i .i64 0))),Aw 25 22 (.mv (.t 24)),Av 26 25 (.fa 0 (.t 4)),Av 27 25 (.ld none (.t 26)),
 Av 28 25 (.mv (.t 0)),Av 29 25 (.mv (.t 3)),Av 30 25 (.bin .sub (.t 29) (.c (.i .i64 1))),Av 31 25 (.ia 2 (.t 28) (.t 30)),Av 32 25 (.fa 1 (.t 31)),Av 33 25 (.ld none (.t 32)),Av 34 25 (.bin .leq (.t 27) (.t 33)),Aw 35 22 (.pick (.t 25) (.t 34) (.c (.b false))),Ao 36 22 35] []) (.ite (.t 36) (.seq (.reg [Ab 2 false]) .ret) .skip)))) (.reg [Ad 37 7 1,Am 7 37]))))))) (.seq (.reg [Ab 2 true]) .ret)))
def L1a.r:List Rr:=[.tmp 2]
abbrev L1a.n:Nat:=38
def L1d.c:C :=(.seq (.reg [Ab 2 false]) (.seq (.drw [Am 3 0,Au 4 (.nck (.t 3)),Af 5 1 4,Al 6 5,Am 7 0,Au 8 (.nck (.t 7)),Af 9 0 8,Al 10 9,An 11 0 10,Au 12 (.bin .mul (.c (.i .i64 2)) (.t 11)),Aj .eql 13 6 12,Am 2 13] []) .ret))
def L1d.r:List Rr:=[.tmp 2]
abbrev L1d.n:Nat:=14
def L1c.c (L1d L1b:FuncId):C :=(.seq (.reg [Ac 2 0]) (.seq (.blk 0 (.seq (.reg [Am 4 0,Au 5 (.call L1d [.t 4]),Am 3 5]) (.ite (.t 3) (.seq (.reg [Ac 2 1048577]) .ret) (.seq (.reg [Am 7 0,Au 8 (.call L1b [.t 7]),Am 6 8]) (.ite (.t 6) (.seq (.drw [Am 9 0,Au 10 (.nck (.t 9)),Af 11 0 10,Al 12 11,Am 13 0,Au 14 (.nck (.t 13)),Af 15 1 14,Al 16 15,Ak .quo 17 16 2,Ai 18 2 12 17,Af 19 1 18,Al 20 19,Am 2 20] []) .ret) .skip))))) (.seq (.drw [Am 21 0,Au 22 (.nck (.t 21)),Af 23 0 22,Al 24 23,Am 25 0,Au 26 (.nck (.t 25)),Af 27 1 26,Al 28 27,Ak .quo 29 28 2,Ai 30 2 24 29,Af 31 0 30,Al 32 31,Am 2 32] []) .ret)))
def L1c.r:List Rr:=[.tmp 2]
abbrev L1c.n:Nat:=33
def L1e.c (L1c:FuncId):C :=(.seq (.reg [Am 4 0,Au 5 (.call L1c [.t 4]),Am 6 1,Aj .eql 7 5 6]) (.ite (.t 7) (.reg [Am 8 0,Au 9 (.nck (.t 8)),Af 10 1 9,Al 11 10,Ad 12 11 1,Au 13 (.nck (.t 8)),Af 14 1 13,As 1 14 12]) .skip))
def L1e.r:List Rr:=[]
abbrev L1e.n:Nat:=15
def L1b.c:C :=(.seq (.reg [Ab 2 false]) (.seq (.reg [Am 3 0,Au 4 (.nck (.t 3)),Af 5 1 4,Al 6 5,Ak .rem 7 6 2,Ak .eql 8 7 1,Am 2 8]) .ret))
def L1b.r:List Rr:=[.tmp 2]
abbrev L1b.n:Nat:=9
def L1h.c (L1a L1d L1c L1e L1b:FuncId):C :=(.seq (.reg [Az 6]) (.seq (.seq (.reg [Am 13 0,Au 14 (.call L1a [.t 13]),Au 15 (.un .not (.t 14)),Am 16 15,Aw 17 16 (.mv (.t 1)),Aw 18 16 (.call L1a [.t 17]),Aw 19 16 (.un .not (.t 18)),Ao 20 16 19]) (.ite (.t 20) (.seq (.reg [Az 6]) .ret) .skip)) (.seq (.reg [Am 21 0,Au 22 (.build [.nil,(.i .i64 0)] [(0,1,(.t 21))]),Au 23 (.box (.t 22)),Am 24 1,Au 25 (.build [.nil,(.i .i64 0)] [(0,1,(.t 24))]),Au 26 (.box (.t 25)),Am 7 23,Am 8 26]) (.seq (.reg [Az 9]) (.seq (.reg [Ab 10 false]) (.seq (.blk 0 (.loop (.seq (.seq (.reg [Am 27 7,Au 28 (.call L1d [.t 27]),
 Au 29 (.un .not (.t 28)),Am 30 29,Aw 31 30 (.mv (.t 8)),Aw 32 30 (.call L1d [.t 31]),Aw 33 30 (.un .not (.t 32)),Ao 34 30 33]) (.ite (.t 34) .skip (.exit 0))) (.blk 1 (.seq (.reg [Am 35 7,Au 36 (.call L1c [.t 35]),Am 37 8,Au 38 (.call L1c [.t 37]),Au 39 (.mn [.t 36,.t 38]),Am 11 39]) (.seq (.reg [Am 40 7,Am 41 11,Au 42 (.call L1e [.t 40,.t 41])]) (.seq (.reg [Am 43 8,Am 44 11,Au 45 (.call L1e [.t 43,.t 44])]) (.seq (.reg [Am 46 2,Am 47 7,Au 48 (.call L1b [.t 47]),Am 49 8,Au 50 (.call L1b [.t 49]),Au 51 (.callv (.t 46) [.t 48,.t 50]),Am 12 51]) (.seq (.blk 2 (.seq (.reg [Am 53 12,Am 54 53,Av 55 54 (.mv (.t 10)),
 Av 56 54 (.un .not (.t 55)),Ap 57 54 56,Am 52 57]) (.ite (.t 52) (.reg [Am 58 9,Am 59 11,Au 60 (.build [(.i .i64 0),(.i .i64 0)] [(0,1,(.t 59))]),Au 61 (.bsi 2 1 [(.i .i64 0),(.i .i64 0)] [(0,(.t 60))]),Au 62 (.app 2 16 (.t 58) (.t 61)),Am 9 62]) (.seq (.reg [Am 64 12,Au 65 (.un .not (.t 64)),Am 66 65,Av 67 66 (.mv (.t 10)),Ap 68 66 67,Am 63 68]) (.ite (.t 63) (.reg [Am 69 9,Am 70 9,An 71 0 70,Ak .sub 72 71 1,Am 73 11,Ai 74 2 69 72,Af 75 1 74,As 1 75 73]) .skip))))) (.reg [Am 76 12,Am 10 76])))))))))) (.seq (.reg [Am 77 9,Am 6 77]) .ret)))))))
def L1h.r:List Rr:=[.tmp 6]
abbrev L1h.n:Nat:=78
def L18.c (L1h L19:FuncId):C :=(.seq (.reg [Az 4]) (.seq (.reg [Am 5 0,Am 6 1,Au 7 (.call L1h [.t 5,.t 6,(.c (.f L19 []))]),Am 4 7]) .ret))
def L18.r:List Rr:=[.tmp 4]
abbrev L18.n:Nat:=8
def L19.c:C :=(.seq (.reg [Ab 4 false]) (.seq (.reg [Am 5 0,Am 6 5,Aw 7 6 (.mv (.t 1)),Ao 8 6 7,Am 4 8]) .ret))
def L19.r:List Rr:=[.tmp 4]
abbrev L19.n:Nat:=9
def L1r.c:C :=(.seq (.reg [Ac 6 0,Ab 7 false]) (.seq (.reg [Am 12 0,An 13 0 12,Am 8 13]) (.seq (.reg [Am 14 8,Ac 9 0,Am 10 14]) (.seq (.blk 0 (.loop (.seq (.seq (.reg [Am 15 9,Am 16 10,Aj .lss 17 15 16]) (.ite (.t 17) .skip (.exit 0))) (.blk 1 (.seq (.reg [Am 18 9,Am 19 10,Aj .add 20 18 19,Au 21 (.cvi .u64 (.t 20)),Au 22 (.bin .shr (.t 21) (.c (.i .u64 1))),Au 23 (.cvi .i64 (.t 22)),Am 11 23]) (.seq (.reg [Am 24 2,Am 25 0,Am 26 11,Ai 27 2 25 26,Ag 28 2 27,Am 29 1,Au 30 (.callv (.t 24) [.t 28,.t 29]),Ak .lss 31 30 0]) (.ite (.t 31) (.reg [Am 32 11,Ad 33 32 1,Am 9 33]) (.reg [Am 34 11,Am 10 34]))))))))
 (.seq (.reg [Am 35 9,Am 36 9,Am 37 8,Aj .lss 38 36 37,Am 39 38,Av 40 39 (.mv (.t 2)),Av 41 39 (.mv (.t 0)),Av 42 39 (.mv (.t 9)),Av 43 39 (.ia 2 (.t 41) (.t 42)),Av 44 39 (.ld (some 2) (.t 43)),Av 45 39 (.mv (.t 1)),Av 46 39 (.callv (.t 40) [.t 44,.t 45]),Av 47 39 (.bin .eql (.t 46) (.c (.i .i64 0))),Ap 48 39 47,Am 6 35,Am 7 48]) .ret)))))
def L1r.r:List Rr:=[.tmp 6,.tmp 7]
abbrev L1r.n:Nat:=49
def L1s.c:C :=(.seq (.reg [Az 2]) (.seq (.seq (.reg [Am 3 0,Au 4 (.isn false (.t 3))]) (.ite (.t 4) (.seq (.reg [Az 2]) .ret) .skip)) (.seq (.reg [Au 5 (.bso 2 0 [(.i .i64 0),(.i .i64 0)] []),Am 6 0,Au 7 (.app 2 16 (.t 5) (.t 6)),Am 2 7]) .ret)))
def L1s.r:List Rr:=[.tmp 2]
abbrev L1s.n:Nat:=8
def L0u.c:C :=(.seq (.reg [Au 2 (.box (.t 0)),Au 3 (.box (.t 1)),Ab 4 false]) (.seq (.seq (.reg [Af 9 0 2,Al 10 9,An 11 0 10,Af 12 0 3,Al 13 12,An 14 0 13,Aj .neq 15 11 14]) (.ite (.t 15) (.seq (.reg [Ab 4 false]) .ret) .skip)) (.seq (.seq (.reg [Ac 5 0]) (.blk 0 (.loop (.seq (.seq (.reg [Am 16 5,Af 17 0 2,Al 18 17,An 19 0 18,Aj .lss 20 16 19]) (.ite (.t 20) .skip (.exit 0))) (.seq (.blk 1 (.seq (.drw [Af 23 0 2,Al 24 23,Am 25 5,Ai 26 2 24 25,Ag 27 2 26,Af 28 0 3,Al 29 28,Am 30 5,Ai 31 2 29 30,Ag 32 2 31,Au 6 (.alloc [(.i .i64 0),.nil]),Au 7 (.alloc [(.i .i64 0),.nil]),As 2 6 27,As 2 7 32] [[],[],[],[],[],[],[],[],[],[],[],[],[5,6,8,9],[]])
 (.seq (.seq (.reg [Af 33 0 6,Al 34 33,Af 35 0 7,Al 36 35,Aj .neq 37 34 36,Am 38 37,Aw 39 38 (.fa 1 (.t 6)),Aw 40 38 (.ld none (.t 39)),Aw 41 38 (.len 0 (.t 40)),Aw 42 38 (.fa 1 (.t 7)),Aw 43 38 (.ld none (.t 42)),Aw 44 38 (.len 0 (.t 43)),Aw 45 38 (.bin .neq (.t 41) (.t 44)),Ao 46 38 45]) (.ite (.t 46) (.seq (.reg [Ab 4 false]) .ret) .skip)) (.seq (.reg [Ac 8 0]) (.blk 2 (.loop (.seq (.seq (.reg [Am 47 8,Af 48 1 6,Al 49 48,An 50 0 49,Aj .lss 51 47 50]) (.ite (.t 51) .skip (.exit 2))) (.seq (.blk 3 (.seq (.drw [Af 54 1 6,Al 55 54,Am 56 8,Ai 57 2 55 56,Ag 58 2 57,Af 59 1 7,Al 60 59,Am 61 8,Ai 62 2 60 61,
 Ag 63 2 62,Au 64 (.eqa [1,1] true (.t 58) (.t 63))] []) (.ite (.t 64) (.seq (.reg [Ab 4 false]) .ret) .skip))) (.reg [Am 52 8,Ad 53 52 1,Am 8 53]))))))))) (.reg [Am 21 5,Ad 22 21 1,Am 5 22])))))) (.seq (.reg [Ab 4 true]) .ret))))
def L0u.r:List Rr:=[.tmp 4]
abbrev L0u.n:Nat:=65
def Q9d (P:Program) (f:FuncId):Prop:=∀g:List Rw,RgV g->RgB g->CallIs P f [rgV g] (.b true)
def rwL (g:List Rw):V:=.l 2 (g.map Rw.cs)
def iel (x:Int):List V:=[.i .i64 x]
theorem Kl (L:List Int) (n:Nat):∀a∈L,∀x∈iel a,x.cl n=true:=λa _ x hx=>by
 simp[iel]at hx
 subst hx
 simp[V.cl,V.cl1,V.cl0]
theorem Qg4 (L:List Int):∀a∈L,∀x∈iel a,x.isD=true:=λa _ x hx=>by
 simp[iel]at hx
 subst hx
 rfl
def Q13 (P:Program) (f:FuncId):Prop:=∀n lo hi:Int,0<=lo->CallIs P f [.i .i64 n,.i .i64 lo,.i .i64 hi] (.b (Zh n lo hi))
def Qcf (P:Program) (f:FuncId):Prop:=∀top h:Int,top<=9223372036854775807->-9223372036854775808<=top->CallIs P f [.i .i64 top,.i .i64 h] (.t [isV (El top h).1,.i .i64 (El top h).2])
def Qpy (P:Program) (f:FuncId):Prop:=Qq P f=true/\∀a b c:Int,CallIs P f [.i .i64 a,.i .i64 b,.i .i64 c] (.t [.i .i64 (min a c),.i .i64 (max b c)])
def Q4j (P:Program) (f:FuncId):Prop:=∀l:List V3,l.length<=1000000->CallIs P f [vsV l] (.t [(bLo l).enc,(bHi l).enc,.b (decide (l≠[]))])
def Qpz (P:Program) (f:FuncId):Prop:=∀m:Mesh,m.check=0->CallIs P f [m.enc] (.t [(bLo m.verts).enc,(bHi m.verts).enc,.b (decide (m.verts≠[]))])
section
variable {P:Program} (hm:P.follows .mixedOrders=true)
include hm
theorem Um {f:FuncId} (hf:Q9 P f L1x.c L1x.r L1x.n):Q13 P f:=by
 intro n lo hi h0
 refine PureC.is (Q8 hm hf (qh rfl) ?_) rfl
 unfold L1x.c Zh
 by_cases h1:lo<=n
 ·by_cases h2:n<=hi
  ·have ht:n.tmod 2=n % 2:=jl (by omega)
   have w:=Q3 (z:=n % 2) (by omega) (by omega)
   by_cases h3:n % 2=0
   ·simp[go_sem,h1,h2,ht,h3,L1x.r]
   ·have hb:(n % 2 == 0)=false:=by simpa using h3
    simp[go_sem,h1,h2,ht,w,h3,hb,L1x.r]
  ·simp[go_sem,h1,h2,L1x.r]
 ·simp[go_sem,h1,L1x.r]
theorem Q4z {f:FuncId} (hf:Q9 P f L0x.c L0x.r L0x.n):Q13 P f:=Um hm hf
theorem Bi {f fe:FuncId} (hf:Q9 P f (L1u.c fe) L1u.r L1u.n) (he:Q13 P fe):Qcf P f:=by
 intro top h ht1 ht2
 have hec:=he h 4 1024 (by omega)
 unfold El
 cases hev:Zh h 4 1024 with
 | false =>
   rw[hev]at hec
   rw[if_pos rfl]
   refine CallIs.res (r:=.t [.nil,.i .i64 1]) ?_ (.inr ⟨_,_,rfl,rfl,.inl (Le0.nil 1),Le1.refl _,trivial⟩)
   refine PureC.is (Q8 hm hf (qh rfl) ?_) rfl
   unfold L1u.c
   simp[go_sem]
   refine Q5 hec ?_
   simp[go_sem,L1u.r]
 | true =>
   rw[hev]at hec
   rw[if_neg (by simp)]
   have hh:4<=h/\h<=1024/\h % 2=0:=by
    unfold Zh at hev
    simp only[Bool.and_eq_true,decide_eq_true_eq]at hev
    omega
   have hq:h.tdiv 2=h / 2:=Int.tdiv_eq_ediv_of_nonneg (by omega)
   have hlt:=λi:Nat=>Q8b (top:=top) (h:=h) (by omega) (i:=i)
   have hmb:∀i:Nat,i<=257->0<=(i:Int)*h/\(i:Int)*h<=257*1024:=λi hi=>by
    refine⟨Int.mul_nonneg (by omega) (by omega),?_⟩
    exact Int.le_trans (jg (show (i:Int)<=257 by omega) (by omega)) (by omega)
   generalize Q8c top h=N at *
   by_cases hN:256<N
   ·rw[if_pos hN]
    refine CallIs.res (r:=.t [.nil,.i .i64 2]) ?_ (.inr ⟨_,_,rfl,rfl,.inl (Le0.nil 1),Le1.refl _,trivial⟩)
    refine PureC.is (Q8 hm hf (qh rfl) ?_) rfl
    unfold L1u.c
    simp[go_sem]
    refine Q5 hec ?_
    simp (disch:=omega) [go_sem,hq,Q3]
    refine Qz [.t 6 1] (α:=Nat) (λi=>i<=256)
     (λi=>⟨[(0,.i .i64 top),(1,.i .i64 h),(6,.own 0 (i+1) 0 i),(7,.i .i64 ((i:Int)*h+h / 2))],[.arr (i+1) 1 ((Xt h i).map iel)]⟩)
     (λi=>256-i) 0 (Nat.zero_le _) ?_ ?_
    ·simp[go_sem,Xt]
    intro i hi
    have hl:=K9 h i
    have c1:=(hlt i).1 (by omega)
    have c2:=hmb i (by omega)
    have c3:=Q0d h i
    have c4:((i+1:Nat):Int)*h=i*h+h:=by push_cast;grind
    have c5:(i:Int)<256->i+1<=256:=by omega
    have ht:List.take i ((Xt h i).map iel)=(Xt h i).map iel:=qe (by simp[hl])
    by_cases hi2:i=256
    ·subst hi2
     have c1b:(256:Int)*h+h / 2<top:=by simpa using c1
     simp (disch:=omega) [go_sem,c1b,L1u.r]
    ·have hie:((i:Int) == 256)=false:=by simp;omega
     have hie2:¬ (i:Int)=256:=by omega
     generalize (i:Int)*h=M at *
     simp (disch:=omega) [go_sem,c1,hie,hie2,hl,ht,Q3]
     exact⟨⟨by omega,by omega⟩,i+1,by omega,by omega,⟨rfl,by omega⟩,⟨rfl,by rw[c3];simp[iel]⟩,Kl _ _⟩
   ·rw[if_neg hN]
    refine PureC.is (Q8 hm hf (qh rfl) ?_) rfl
    unfold L1u.c
    simp[go_sem]
    refine Q5 hec ?_
    simp (disch:=omega) [go_sem,hq,Q3]
    refine Qz [.t 6 1] (α:=Nat) (λi=>i<=N)
     (λi=>⟨[(0,.i .i64 top),(1,.i .i64 h),(6,.own 0 (i+1) 0 i),(7,.i .i64 ((i:Int)*h+h / 2))],[.arr (i+1) 1 ((Xt h i).map iel)]⟩)
     (λi=>N-i) 0 (Nat.zero_le _) ?_ ?_
    ·simp[go_sem,Xt]
    intro i hi
    have hl:=K9 h i
    have c2:=hmb i (by omega)
    have c3:=Q0d h i
    have c4:((i+1:Nat):Int)*h=i*h+h:=by push_cast;grind
    have ht:List.take i ((Xt h i).map iel)=(Xt h i).map iel:=qe (by simp[hl])
    by_cases hin:i<N
    ·have c1:=(hlt i).1 hin
     have hie:((i:Int) == 256)=false:=by simp;omega
     have hie2:¬ (i:Int)=256:=by omega
     generalize (i:Int)*h=M at *
     simp (disch:=omega) [go_sem,c1,hie,hie2,hl,ht,Q3]
     exact⟨⟨by omega,by omega⟩,i+1,by omega,by omega,⟨rfl,by omega⟩,⟨rfl,by rw[c3];simp[iel]⟩,Kl _ _⟩
    ·obtain rfl:i=N:=by omega
     have c1:¬ (i:Int)*h+h / 2<top:=λhh=>hin ((hlt i).2 hh)
     simp (disch:=omega) [go_sem,c1,hl,ht,L1u.r]
     rw[if_pos (Qg4 _)];rfl
theorem Q14 {f:FuncId} (hf:Q9 P f L29.c L29.r L29.n) (hcb:Qq P f=true):Qpy P f:=by
 refine⟨hcb,λa b c=>?_⟩
 refine PureC.is (Q8 hm hf (qh rfl) ?_) rfl
 unfold L29.c
 have e1:(if c<a then c else a)=min a c:=by split<;>omega
 have e2:(if b<c then c else b)=max b c:=by split<;>omega
 simp[go_sem,e1,e2,L29.r]
theorem Bs {f fe:FuncId} (hf:Q9 P f (L0v.c fe) L0v.r L0v.n) (he:Q13 P fe):Qcf P f:=by
 intro top h ht1 ht2
 have hec:=he h 4 1024 (by omega)
 unfold El
 cases hev:Zh h 4 1024 with
 | false =>
   rw[hev]at hec
   rw[if_pos rfl]
   refine CallIs.res (r:=.t [.nil,.i .i64 1]) ?_ (.inr ⟨_,_,rfl,rfl,.inl (Le0.nil 1),Le1.refl _,trivial⟩)
   refine PureC.is (Q8 hm hf (qh rfl) ?_) rfl
   unfold L0v.c
   simp[go_sem]
   refine Q5 hec ?_
   simp[go_sem,L0v.r]
 | true =>
   rw[hev]at hec
   rw[if_neg (by simp)]
   have hh:4<=h/\h<=1024/\h % 2=0:=by
    unfold Zh at hev
    simp only[Bool.and_eq_true,decide_eq_true_eq]at hev
    omega
   have hq:h.tdiv 2=h / 2:=Int.tdiv_eq_ediv_of_nonneg (by omega)
   have hlt:=λi:Nat=>Q8b (top:=top) (h:=h) (by omega) (i:=i)
   have hmb:∀i:Nat,i<=257->0<=(i:Int)*h/\(i:Int)*h<=257*1024:=λi hi=>by
    refine⟨Int.mul_nonneg (by omega) (by omega),?_⟩
    exact Int.le_trans (jg (show (i:Int)<=257 by omega) (by omega)) (by omega)
   generalize Q8c top h=N at *
   refine CallIs.res (r:=.t [if 256<N then .nil else isV (Xt h N),.i .i64 (if 256<N then 2 else 0)]) ?_ (by
    by_cases hN:256<N
    ·rw[if_pos hN,if_pos hN,if_pos hN]
     exact .inr ⟨_,_,rfl,rfl,.inl (Le0.nil 1),Le1.refl _,trivial⟩
    ·rw[if_neg hN,if_neg hN,if_neg hN]
     exact Le.refl _)
   refine PureC.is (Q8 hm hf (qh rfl) ?_) rfl
   unfold L0v.c
   simp[go_sem]
   refine Q5 hec ?_
   simp (disch:=omega) [go_sem,hq,Q3]
   refine Qz [.t 6 1] (α:=Nat) (λi=>i<=N/\i<=257)
    (λi=>⟨[(0,.i .i64 top),(1,.i .i64 h),(6,.own 0 (i+1) 0 i),(7,.i .i64 i)],[.arr (i+1) 1 ((Xt h i).map iel)]⟩)
    (λi=>N-i) 0 ⟨Nat.zero_le _,Nat.zero_le _⟩ ?_ ?_
   ·simp[go_sem,Xt]
   rintro i ⟨hi,hi2⟩
   have hl:=K9 h i
   have c2:=hmb i (by omega)
   have c3:=Q0d h i
   have ht:List.take i ((Xt h i).map iel)=(Xt h i).map iel:=qe (by simp[hl])
   by_cases hi3:i=257
   ·have hN:256<N:=by omega
    simp (disch:=omega) [go_sem,hi3,hN,L0v.r]
   have hi4:(i:Int)<=256:=by omega
   by_cases hin:i<N
   ·have c1:=(hlt i).1 hin
    obtain⟨M,hM⟩:∃M:Int,(i:Int)*h=M:=⟨_,rfl⟩
    rw[hM]at c1 c2 c3
    have w1:=Q3 (z:=M) (by omega) (by omega)
    simp (disch:=omega) [go_sem,hi4,hq,hM,w1,show ¬ top<=M+h / 2 by omega,hl,ht,Q3]
    exact⟨⟨by omega,by omega⟩,i+1,⟨by omega,by omega⟩,by omega,⟨rfl,by omega⟩,⟨rfl,by rw[c3];simp[iel]⟩,Kl _ _⟩
   ·obtain rfl:i=N:=by omega
    have c1:¬ (i:Int)*h+h / 2<top:=λhh=>hin ((hlt i).2 hh)
    have hN:¬ 256<i:=by omega
    obtain⟨M,hM⟩:∃M:Int,(i:Int)*h=M:=⟨_,rfl⟩
    rw[hM]at c1 c2
    have w1:=Q3 (z:=M) (by omega) (by omega)
    simp (disch:=omega) [go_sem,hi4,hq,hM,w1,show top<=M+h / 2 by omega,hl,ht,hN,Q3,L0v.r]
    rw[if_pos (Qg4 _)];rfl
end
def Ju (l:List (List Rw)):V:=.l 1 (l.map λg=>[rwL g])
def Qf1 (P:Program) (f:FuncId):Prop:=∀a b:List Rw,RgV a->RgV b->RgB a->RgB b->CallIs P f [rgV a,rgV b] (.b (decide (a=b)))
def Qf2 (P:Program) (f:FuncId):Prop:=∀a b:List (List Rw),Ky a->Ky b->a.length<=1000->b.length<=1000->CallIs P f [Ju a,Ju b] (.b (decide (a=b)))
section
variable {P:Program} (hm:P.follows .mixedOrders=true)
include hm
theorem Q4o {f fm:FuncId} (hf:Q9 P f (L28.c fm) L28.r L28.n) (hmm:Qpy P fm):Q4j P f:=by
 intro l hl
 obtain⟨hcb,hmc⟩:=hmm
 refine PureC.is (Q8 hm hf (qh rfl) ?_) rfl
 unfold L28.c
 cases l with
 | nil =>
   simp[go_sem,vsV,bLo,bHi,V3.enc,V3.cs,L28.r]
 | cons v0 vs =>
   generalize hvs:v0::vs=l at hl ⊢
   have hll:0<l.length:=by rw[<- hvs];simp
   have hne:l≠[]:=by rw[<- hvs];simp
   have hq0:l[0]?=some v0:=by rw[<- hvs];rfl
   have eLo:bLo l=Q5t v0 l:=by rw[<- hvs];rfl
   have eHi:bHi l=Q0l v0 l:=by rw[<- hvs];rfl
   obtain⟨_,hq0'⟩:=q8.1 hq0
   clear hvs
   have hlf:((l.length:Int) == 0)=false:=by simp;omega
   rw[eLo,eHi]
   simp (disch:=omega) [go_sem,vsV,hll,hne,hlf,hq0,hq0',V3.cs,show ¬ l.length=0 by omega]
   obtain⟨A,hA⟩:∃A:Nat->V3,∀i,A i=Q5t v0 (l.take i):=⟨_,λ_=>rfl⟩
   obtain⟨B,hB⟩:∃B:Nat->V3,∀i,B i=Q0l v0 (l.take i):=⟨_,λ_=>rfl⟩
   have hA0:A 0=v0:=by rw[hA];rfl
   have hB0:B 0=v0:=by rw[hB];rfl
   have hAn:A l.length=Q5t v0 l:=by rw[hA,qi]
   have hBn:B l.length=Q0l v0 l:=by rw[hB,qi]
   refine Qh (α:=Nat) (λi=>i<=l.length)
    (λi=>⟨[(2,.p 0 1 0 0),(3,.p 1 1 0 0),(5,.p 2 1 0 0),(6,.p 3 1 0 0),(7,.f fm []),(21,vsV l),(22,.i .i64 l.length),(23,.i .i64 i)],[.arr 1 3 [(⟨0,0,0⟩:V3).cs],.arr 1 3 [(⟨0,0,0⟩:V3).cs],.arr 1 3 [(A i).cs],.arr 1 3 [(B i).cs]]⟩)
    (λi=>l.length-i) 0 (Nat.zero_le _) ?_ ?_
   ·simp[go_sem,vsV,V3.cs,hA0,hB0]
   intro i hi
   by_cases hil:i=l.length
   ·subst hil
    rw[hAn,hBn]
    simp[go_sem,vsV,V3.cs,V3.enc,L28.r]
   have hlt:i<l.length:=by omega
   have hq:l[i]?=some l[i]:=q9 hlt
   have hAs:A (i+1)=⟨min (A i).x (l[i]).x,min (A i).y (l[i]).y,min (A i).z (l[i]).z⟩:=by rw[hA,hA,Qc hq,Qjf]
   have hBs:B (i+1)=⟨max (B i).x (l[i]).x,max (B i).y (l[i]).y,max (B i).z (l[i]).z⟩:=by rw[hB,hB,Qc hq,Qjg]
   generalize l[i]=v at *
   obtain⟨_,hq'⟩:=q8.1 hq
   have c1:=hmc (A i).x (B i).x v.x
   have c2:=hmc (A i).y (B i).y v.y
   have c3:=hmc (A i).z (B i).z v.z
   simp (disch:=omega) [go_sem,vsV,hlt,hq,hq',V3.cs,Q3]
   refine⟨hcb,Q5 c1 ?_⟩
   simp (disch:=omega) [go_sem,vsV,V3.cs,Q3]
   refine⟨hcb,Q5 c2 ?_⟩
   simp (disch:=omega) [go_sem,vsV,V3.cs,Q3]
   refine⟨hcb,Q5 c3 ?_⟩
   simp (disch:=omega) [go_sem,vsV,V3.cs,Q3]
   exact⟨i+1,by omega,by omega,by omega,by rw[hAs];exact⟨rfl,rfl,rfl⟩,by rw[hBs];exact⟨rfl,rfl,rfl⟩⟩
theorem Qb3 {f fc fb:FuncId} (hf:Q9 P f (L0b.c fc fb) L0b.r L0b.n) (hc:Jo P fc) (hb:Q4j P fb):Qpz P f:=by
 intro m hm0
 have hcc:=hc m
 rw[hm0]at hcc
 have hl:=(Mesh.check_zero.1 hm0).1
 have hbc:=hb m.verts (by omega)
 refine PureC.is (Q8 hm hf (qh rfl) ?_) rfl
 unfold L0b.c
 simp[go_sem,Mesh.enc,Mesh.cs]
 refine Q5 hcc ?_
 simp[go_sem]
 refine Q5 hbc ?_
 simp[go_sem,V3.enc,V3.cs,L0b.r]
theorem Q51 {f:FuncId} (hf:Q9 P f L0u.c L0u.r L0u.n):Qf1 P f:=by
 intro a b ha hb ba bb
 have hal:=ha.len ba
 have hbl:=hb.len bb
 refine PureC.is (Q8 hm hf (qh rfl) ?_) rfl
 unfold L0u.c
 by_cases hlen:a.length=b.length
 case neg =>
  have hne:¬ a=b:=λh=>hlen (by rw[h])
  have hb1:((a.length:Int) == b.length)=false:=by simp;omega
  have hb2:((a.length:Int) != b.length)=true:=by simp;omega
  simp[go_sem,rgV,hb1,hb2,hne,hlen,L0u.r]
 simp[go_sem,rgV,hlen]
 refine Qh (α:=Nat) (λi=>i<=a.length/\a.take i=b.take i)
  (λi=>⟨[(2,.p 0 1 0 0),(3,.p 1 1 0 0),(5,.i .i64 i)],[.arr 1 1 [[rwL a]],.arr 1 1 [[rwL b]]]⟩)
  (λi=>a.length-i) 0 ⟨Nat.zero_le _,rfl⟩ ?_ ?_
 ·simp[go_sem,rwL]
 rintro i ⟨hi,hpre⟩
 by_cases hil:i=a.length
 ·subst hil
  have he:a=b:=by
   rw[qi,hlen,qi]at hpre
   exact hpre
  subst he
  simp[go_sem,rwL,L0u.r]
 have hlt:i<a.length:=by omega
 have hlt2:i<b.length:=by omega
 have hq:a[i]?=some a[i]:=q9 hlt
 have hr:b[i]?=some b[i]:=q9 hlt2
 have hal2:=(ha.rs _ (qb hq)).len (ba.rnb ha (qb hq))
 generalize a[i]=v at *
 generalize b[i]=w at *
 obtain⟨_,hq'⟩:=q8.1 hq
 obtain⟨_,hr'⟩:=q8.1 hr
 have hdiff:v≠w->¬ a=b:=λhvw he=>by
  rw[he,hr]at hq
  simp at hq
  exact hvw hq.symm
 by_cases hy:v.y=w.y
 case neg =>
  have hne:=hdiff λh=>hy (by rw[h])
  have hb1:(v.y != w.y)=true:=by simpa using hy
  simp (disch:=omega) [go_sem,rwL,hlt,hlt2,hq,hq',hr,hr',Rw.cs,hy,hb1,hne,Q3,L0u.r]
 by_cases hrl:v.rs.length=w.rs.length
 case neg =>
  have hne:=hdiff λh=>hrl (by rw[h])
  have hb1:((v.rs.length:Int) != w.rs.length)=true:=by simp;omega
  simp (disch:=omega) [go_sem,rwL,hlt,hlt2,hq,hq',hr,hr',Rw.cs,Qj,hy,hrl,hb1,hne,Q3,L0u.r]
 simp (disch:=omega) [go_sem,rwL,hlt,hlt2,hq,hq',hr,hr',Rw.cs,Qj,hy,hrl,Q3]
 refine Qh (α:=Nat) (λj=>j<=v.rs.length/\v.rs.take j=w.rs.take j)
  (λj=>⟨[(2,.p 0 1 0 0),(3,.p 1 1 0 0),(5,.i .i64 i),(6,.p 2 1 0 0),(7,.p 3 1 0 0),(8,.i .i64 j)],[.arr 1 1 [[rwL a]],.arr 1 1 [[rwL b]],.arr 1 2 [v.cs],.arr 1 2 [w.cs]]⟩)
  (λj=>v.rs.length-j) 0 ⟨Nat.zero_le _,rfl⟩ ?_ ?_
 ·simp[go_sem,rwL,Rw.cs,Qj,hy]
 rintro j ⟨hj,hpre2⟩
 by_cases hjl:j=v.rs.length
 ·subst hjl
  have he:v=w:=by
   rw[qi,hrl,qi]at hpre2
   cases v;cases w;simp_all
  subst he
  simp (disch:=omega) [go_sem,rwL,Rw.cs,Qj,Q3]
  exact⟨i+1,⟨by omega,by rw[Qc hq,Qc hr,hpre]⟩,by omega,by omega⟩
 have hjt:j<v.rs.length:=by omega
 have hjt2:j<w.rs.length:=by omega
 have hu:v.rs[j]?=some v.rs[j]:=q9 hjt
 have hx:w.rs[j]?=some w.rs[j]:=q9 hjt2
 have hdiff2:v.rs[j]≠w.rs[j]->¬ a=b:=λhne=>hdiff λh=>by
  subst h
  exact hne rfl
 generalize v.rs[j]=r at *
 generalize w.rs[j]=s at *
 obtain⟨_,hu'⟩:=q8.1 hu
 obtain⟨_,hx'⟩:=q8.1 hx
 by_cases hrs:r=s
 ·subst hrs
  simp (disch:=omega) [go_sem,rwL,Rw.cs,Rn.cs,Qj,hjt,hjt2,hu,hu',hx,hx',Q3]
  exact⟨j+1,⟨by omega,by rw[Qc hu,Qc hx,hpre2]⟩,by omega,by omega⟩
 ·have hne:=hdiff2 hrs
  have hor:¬ r.a=s.a∨¬ r.b=s.b:=by
   by_cases h1:r.a=s.a
   ·right;intro h2;apply hrs;cases r;cases s;simp_all
   ·exact .inl h1
  have hbo:(!r.a == s.a || !r.b == s.b)=true:=by
   rcases hor with h1 | h1<;>simp[h1]
  simp (disch:=omega) [go_sem,rwL,Rw.cs,Rn.cs,Qj,hjt,hjt2,hu,hu',hx,hx',hor,hbo,hne,Q3,L0u.r]
theorem Q50 {f fs:FuncId} (hf:Q9 P f (L0w.c fs) L0w.r L0w.n) (hs:Qf1 P fs):Qf2 P f:=by
 intro a b ha hb hal hbl
 refine PureC.is (Q8 hm hf (qh rfl) ?_) rfl
 unfold L0w.c
 by_cases hlen:a.length=b.length
 case neg =>
  have hne:¬ a=b:=λh=>hlen (by rw[h])
  have hb2:((a.length:Int) != b.length)=true:=by simp;omega
  simp[go_sem,Ju,hb2,hne,hlen,L0w.r]
 simp[go_sem,Ju,hlen]
 refine Qh (α:=Nat) (λi=>i<=a.length/\a.take i=b.take i)
  (λi=>⟨[(0,Ju a),(1,Ju b),(5,.i .i64 i)],[]⟩)
  (λi=>a.length-i) 0 ⟨Nat.zero_le _,rfl⟩ ?_ ?_
 ·simp[go_sem,Ju]
 rintro i ⟨hi,hpre⟩
 by_cases hil:i=a.length
 ·subst hil
  have he:a=b:=by
   rw[qi,hlen,qi]at hpre
   exact hpre
  subst he
  simp[go_sem,Ju,L0w.r]
 have hlt:i<a.length:=by omega
 have hlt2:i<b.length:=by omega
 have hq:a[i]?=some a[i]:=q9 hlt
 have hr:b[i]?=some b[i]:=q9 hlt2
 have va:=ha _ (qb hq)
 have vb:=hb _ (qb hr)
 generalize a[i]=v at *
 generalize b[i]=w at *
 obtain⟨_,hq'⟩:=q8.1 hq
 obtain⟨_,hr'⟩:=q8.1 hr
 have hsc:=hs v w va.1 vb.1 va.2 vb.2
 simp only[rgV]at hsc
 simp (disch:=omega) [go_sem,Ju,rwL,hlt,hlt2,hq,hq',hr,hr',Q3]
 refine Qo hsc ?_
 by_cases he:v=w
 ·subst he
  simp (disch:=omega) [go_sem,Ju,rwL,Q3]
  exact⟨i+1,⟨by omega,by rw[Qc hq,Qc hr,hpre]⟩,by omega,by omega⟩
 ·have hne:¬ a=b:=λh=>by
   rw[h,hr]at hq
   simp at hq
   exact he hq.symm
  simp (disch:=omega) [go_sem,Ju,rwL,he,hne,Q3,L0w.r]
end
def L05.c:C :=(.seq (.reg [Au 2 (.box (.t 0)),Au 3 (.box (.t 1)),Ac 4 0]) (.seq (.blk 0 (.seq (.reg [Af 6 0 2,Al 7 6,Af 8 0 3,Al 9 8,Aj .lss 10 7 9,Am 11 10,Aw 12 11 (.fa 0 (.t 2)),Aw 13 11 (.ld none (.t 12)),Aw 14 11 (.fa 0 (.t 3)),Aw 15 11 (.ld none (.t 14)),Aw 16 11 (.bin .eql (.t 13) (.t 15)),Aw 17 11 (.mv (.t 16)),Av 18 17 (.fa 1 (.t 2)),Av 19 17 (.ld none (.t 18)),Av 20 17 (.fa 1 (.t 3)),Av 21 17 (.ld none (.t 20)),Av 22 17 (.bin .lss (.t 19) (.t 21)),Aw 23 11 (.pick (.t 17) (.t 22) (.c (.b false))),Ao 24 11 23,Am 5 24]) (.ite (.t 5) (.seq (.reg [Ac 4 (-1)]) .ret) (.seq (.reg [Ag 26 2 2,
 Ag 27 2 3,Au 28 (.eqa [1,1] false (.t 26) (.t 27)),Am 25 28]) (.ite (.t 25) (.seq (.reg [Ac 4 0]) .ret) .skip))))) (.seq (.reg [Ac 4 1]) .ret)))
def L05.r:List Rr:=[.tmp 4]
abbrev L05.n:Nat:=29
def L03.c:C :=(.seq (.reg [Ab 2 false]) (.seq (.reg [Au 8 (.mkm none),Am 3 8]) (.seq (.seq (.reg [Am 9 0,An 10 0 9,Ac 11 0]) (.blk 0 (.loop (.seq (.reg [Aj .lss 12 11 10]) (.seq (.ite (.t 12) .skip (.exit 0)) (.seq (.blk 1 (.seq (.reg [Ai 13 4 9 11,Ag 14 4 13,Au 5 (.alloc [(.i .i64 0),(.i .i64 0),(.i .i64 0),(.i .i64 0)]),As 4 5 14]) (.seq (.reg [Am 15 3,Af 16 0 5,Ag 17 2 16,⟨none,none,.eqa [1,1] false (.t 17) (.t 17)⟩,Au 18 (.lk [1,1] (.i .i64 0) false (.t 15) (.t 17)),Ad 19 18 1,Au 20 (.ment [1,1] (.i .i64 0) (.t 15) (.t 17)),Ax1 21 1 20,⟨none,none,.est (.t 15) (.t 21) (.t 19)⟩]) (.reg [Am 22 3,
 Af 23 2 5,Ag 24 2 23,⟨none,none,.eqa [1,1] false (.t 24) (.t 24)⟩,Au 25 (.lk [1,1] (.i .i64 0) false (.t 22) (.t 24)),Ak .sub 26 25 1,Au 27 (.ment [1,1] (.i .i64 0) (.t 22) (.t 24)),Ax1 28 1 27,⟨none,none,.est (.t 22) (.t 28) (.t 26)⟩])))) (.reg [Ad 29 11 1,Am 11 29]))))))) (.seq (.seq (.reg [Am 30 3,Au 31 (.mrng (.t 30))]) (.blk 2 (.loop (.seq (.reg [Au 32 (.mnx (.t 31)),Ax1 33 0 32]) (.seq (.ite (.t 33) .skip (.exit 2)) (.blk 3 (.seq (.reg [Au 34 (.men (.t 31)),Ax1 35 1 34,Am 7 35]) (.seq (.reg [Am 36 7,Ak .neq 37 36 0]) (.ite (.t 37) (.seq (.reg [Ab 2 false]) .ret) .skip))))))))) (.seq (.reg [
 Ab 2 true]) .ret)))))
def L03.r:List Rr:=[.tmp 2]
abbrev L03.n:Nat:=38
def L07.c:C :=(.seq (.reg [Au 3 (.box (.t 1)),Au 4 (.alloc [(.i .i64 0),(.i .i64 0)])]) (.seq (.reg [Am 6 0,Ag 7 2 3,Au 8 (.lk [1,1] .nil false (.t 6) (.t 7)),Am 5 8]) (.seq (.seq (.reg [Am 9 5,An 10 0 9,Ak .eql 11 10 1]) (.ite (.t 11) (.reg [Am 12 0,Ag 13 2 3,⟨none,none,.mdel [1,1] (.t 12) (.t 13)⟩]) (.drw [Am 14 0,Ag 15 2 3,Am 16 5,Au 17 (.slc 2 (.t 16) (some (.c (.i .i64 1))) none),⟨none,none,.mup [1,1] (.t 14) (.t 15) (.t 17)⟩] []))) (.seq (.reg [Am 18 5,Au 19 (.ia 2 (.t 18) (.c (.i .i64 0))),Ag 20 2 19,As 2 4 20]) .ret))))
def L07.r:List Rr:=[.cell 4 (some 2)]
abbrev L07.n:Nat:=21
def L06.c (L07:FuncId):C :=(.seq (.reg [Au 3 (.box (.t 1)),Au 4 (.alloc [.nil])]) (.seq (.reg [Ag 7 2 3,Au 8 (.bso 2 1 [(.i .i64 0),(.i .i64 0)] [(0,(.t 7))]),Au 9 (.build [.nil] [(0,1,(.t 8))]),Au 5 (.alloc [.nil]),As 1 5 9]) (.seq (.seq (.reg [Am 10 0,Ag 11 2 3,Au 12 (.call L07 [.t 10,.t 11]),Au 6 (.alloc [(.i .i64 0),(.i .i64 0)]),As 2 6 12]) (.blk 0 (.loop (.seq (.seq (.reg [Ag 13 2 6,Ag 14 2 3,Au 15 (.eqa [1,1] true (.t 13) (.t 14)),Am 16 15,Av 17 16 (.mv (.t 0)),Av 18 16 (.ld (some 2) (.t 6)),Av 19 16 (.lk [1,1] .nil false (.t 17) (.t 18)),Av 20 16 (.len 0 (.t 19)),Av 21 16 (.bin .gtr (.t 20) (.c (.i .i64 0))),
 Ap 22 16 21]) (.ite (.t 22) .skip (.exit 0))) (.seq (.blk 1 (.reg [Af 26 0 5,Al 27 26,Ag 28 2 6,Au 29 (.bsi 2 1 [(.i .i64 0),(.i .i64 0)] [(0,(.t 28))]),Au 30 (.app 2 16 (.t 27) (.t 29)),Af 31 0 5,As 1 31 30])) (.seq (.seq (.reg [Ag 32 2 6]) (.reg [Au 6 (.alloc [(.i .i64 0),(.i .i64 0)]),As 2 6 32])) (.reg [Am 23 0,Ag 24 2 6,Au 25 (.call L07 [.t 23,.t 24]),As 2 6 25]))))))) (.seq (.reg [Ag 33 1 5,As 1 4 33]) .ret))))
def L06.r:List Rr:=[.cell 4 (some 1)]
abbrev L06.n:Nat:=34
def L04.c (L0k L03 slices_SortFunc_api_Pt_api_Pt L05 L06:FuncId):C :=(.seq (.reg [Az 2,Ac 3 0]) (.seq (.seq (.reg [Am 15 0,An 16 0 15,Ak .gtr 17 16 8192]) (.ite (.t 17) (.seq (.reg [Az 2,Ac 3 2]) .ret) .skip)) (.seq (.seq (.reg [Am 18 0,An 19 0 18,Ac 20 0]) (.blk 0 (.loop (.seq (.reg [Aj .lss 21 20 19]) (.seq (.ite (.t 21) .skip (.exit 0)) (.seq (.blk 1 (.seq (.reg [Ai 22 4 18 20,Ag 23 4 22,Au 5 (.alloc [(.i .i64 0),(.i .i64 0),(.i .i64 0),(.i .i64 0)]),As 4 5 23]) (.seq (.reg [Af 24 0 5,Ag 25 2 24,Au 26 (.call L0k [.t 25]),Au 27 (.un .not (.t 26)),Am 28 27,Aw 29 28 (.fa 2 (.t 5)),Aw 30 28 (.ld (some 2) (.t 29)),
 Aw 31 28 (.call L0k [.t 30]),Aw 32 28 (.un .not (.t 31)),Ao 33 28 32]) (.ite (.t 33) (.seq (.reg [Az 2,Ac 3 8]) .ret) .skip)))) (.reg [Ad 34 20 1,Am 20 34]))))))) (.seq (.seq (.reg [Am 35 0,Au 36 (.call L03 [.t 35]),Au 37 (.un .not (.t 36))]) (.ite (.t 37) (.seq (.reg [Az 2,Ac 3 12]) .ret) .skip)) (.seq (.reg [Au 38 (.mkm none),Am 6 38]) (.seq (.reg [Az 7]) (.seq (.seq (.reg [Am 39 0,An 40 0 39,Ac 41 0]) (.blk 2 (.loop (.seq (.reg [Aj .lss 42 41 40]) (.seq (.ite (.t 42) .skip (.exit 2)) (.seq (.blk 3 (.seq (.reg [Ai 43 4 39 41,Ag 44 4 43,Au 9 (.alloc [(.i .i64 0),(.i .i64 0),(.i .i64 0),(.i .i64 0)]),
 As 4 9 44]) (.seq (.seq (.reg [Af 45 0 9,Ag 46 2 45,Af 47 2 9,Ag 48 2 47,Au 49 (.eqa [1,1] false (.t 46) (.t 48))]) (.ite (.t 49) (.exit 3) .skip)) (.seq (.seq (.reg [Am 50 6,Af 51 0 9,Ag 52 2 51,Au 53 (.lk [1,1] .nil false (.t 50) (.t 52)),An 54 0 53,Ak .eql 55 54 0]) (.ite (.t 55) (.reg [Am 56 7,Af 57 0 9,Ag 58 2 57,Au 59 (.bsi 2 1 [(.i .i64 0),(.i .i64 0)] [(0,(.t 58))]),Au 60 (.app 2 16 (.t 56) (.t 59)),Am 7 60]) .skip)) (.reg [Am 61 6,Af 62 0 9,Ag 63 2 62,Af 65 2 9,Ag 66 2 65,Au 67 (.bsi 2 1 [(.i .i64 0),(.i .i64 0)] [(0,(.t 66))]),Au 68 (.ment [1,1] .nil (.t 61) (.t 63)),Ax1 64 0 68,Au 69 (.app 2 16 (.t 64) (.t 67)),
 Ax1 70 1 68,⟨none,none,.est (.t 61) (.t 70) (.t 69)⟩]))))) (.reg [Ad 71 41 1,Am 41 71]))))))) (.seq (.reg [Am 72 7,Au 73 (.call slices_SortFunc_api_Pt_api_Pt [.t 72,(.c (.f L05 []))])]) (.seq (.seq (.reg [Am 74 7,An 75 0 74,Ac 76 0]) (.blk 4 (.loop (.seq (.reg [Aj .lss 77 76 75]) (.seq (.ite (.t 77) .skip (.exit 4)) (.seq (.blk 5 (.seq (.reg [Ai 78 2 74 76,Ag 79 2 78,Au 11 (.alloc [(.i .i64 0),(.i .i64 0)]),As 2 11 79]) (.reg [Am 80 6,Ag 81 2 11,Au 82 (.lk [1,1] .nil false (.t 80) (.t 81)),Au 83 (.call slices_SortFunc_api_Pt_api_Pt [.t 82,(.c (.f L05 []))])]))) (.reg [Ad 84 76 1,Am 76 84])))))))
 (.seq (.reg [Az 12]) (.seq (.seq (.reg [Am 85 7,An 86 0 85,Ac 87 0]) (.blk 6 (.loop (.seq (.reg [Aj .lss 88 87 86]) (.seq (.ite (.t 88) .skip (.exit 6)) (.seq (.blk 7 (.seq (.reg [Ai 89 2 85 87,Ag 90 2 89,Au 14 (.alloc [(.i .i64 0),(.i .i64 0)]),As 2 14 90]) (.blk 8 (.loop (.seq (.seq (.reg [Am 91 6,Ag 92 2 14,Au 93 (.lk [1,1] .nil false (.t 91) (.t 92)),An 94 0 93,Ak .gtr 95 94 0]) (.ite (.t 95) .skip (.exit 8))) (.blk 9 (.reg [Am 96 12,Am 97 6,Ag 98 2 14,Au 99 (.call L06 [.t 97,.t 98]),Au 100 (.bso 1 1 [.nil] [(0,(.t 99))]),Au 101 (.app 1 24 (.t 96) (.t 100)),Am 12 101]))))))) (.reg [Ad 102 87 1,
 Am 87 102]))))))) (.seq (.reg [Am 103 12,Am 2 103,Ac 3 0]) .ret))))))))))))
def L04.r:List Rr:=[.tmp 2,.tmp 3]
abbrev L04.n:Nat:=104
end Go.Abs
