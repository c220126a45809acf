/- Part of the library on which the proof stands: an abstract machine, its values and its soundness against the model; or what functions of the program do to such values. -/
import Derived.Test.YtnaehggpjfdenaaGreatGoTk
set_option linter.unusedVariables false
set_option linter.unusedSimpArgs false
set_option maxHeartbeats 1000000
namespace Go.Abs
def L1k.c (L1h:FuncId):C :=(Bs [Au 3 (.box (.t 1)),Ac 4 0] (Bs [Am 8 0,An 9 0 8,Ac 5 0,Am 6 9] (.seq (.blk 0 (.loop (.seq (Bs [Am 10 5,Am 11 6,Aj .lss 12 10 11] (.ite (.t 12) .skip (.exit 0))) (.blk 1 (Bs [Am 13 5,Am 14 6,Aj .add 15 13 14,Ak .quo 16 15 2,Am 7 16] (.seq (.drw [Am 17 0,Am 18 7,Ai 19 3 17 18,Af 20 0 19,Ag 21 2 20,Ag 22 2 3,Au 23 (.call L1h [.t 21,.t 22])] []) (.ite (.t 23) (.reg [Am 24 7,Ad 25 24 1,Am 5 25]) (.reg [Am 26 7,Am 6 26])))))))) (Bs [Am 27 5,Am 4 27] .ret))))
def L1k.r:List Rr:=[.tmp 4]
abbrev L1k.n:Nat:=28
def L1j.c (L1k:FuncId):C :=(Bs [Au 3 (.box (.t 1)),Ac 4 0] (Bs [Am 6 0,Ag 7 2 3,Au 8 (.call L1k [.t 6,.t 7]),Am 5 8] (.seq (.seq (.drw [Am 9 5,Am 10 0,An 11 0 10,Aj .lss 12 9 11,Am 13 12,Av 14 13 (.mv (.t 0)),Av 15 13 (.mv (.t 5)),Av 16 13 (.ia 3 (.t 14) (.t 15)),Av 17 13 (.fa 0 (.t 16)),Av 18 13 (.ld (some 2) (.t 17)),Av 19 13 (.ld (some 2) (.t 3)),Av 20 13 (.eqa [1,1] false (.t 18) (.t 19)),Ap 21 13 20] []) (.ite (.t 21) (Bs [Am 22 0,Am 23 5,Ai 24 3 22 23,Af 25 2 24,Al 26 25,Am 4 26] .ret) .skip)) (Bs [Ac 4 0] .ret))))
def L1j.r:List Rr:=[.tmp 4]
abbrev L1j.n:Nat:=27
def L1o.c (L1k:FuncId):C :=(Bs [Au 3 (.box (.t 1)),Az 4] (Bs [Am 6 0,Ag 7 2 3,Au 8 (.call L1k [.t 6,.t 7]),Am 5 8] (.seq (.seq (.drw [Am 9 5,Am 10 0,An 11 0 10,Aj .lss 12 9 11,Am 13 12,Av 14 13 (.mv (.t 0)),Av 15 13 (.mv (.t 5)),Av 16 13 (.ia 3 (.t 14) (.t 15)),Av 17 13 (.fa 0 (.t 16)),Av 18 13 (.ld (some 2) (.t 17)),Av 19 13 (.ld (some 2) (.t 3)),Av 20 13 (.eqa [1,1] false (.t 18) (.t 19)),Ap 21 13 20] []) (.ite (.t 21) (Bs [Am 22 0,Am 4 22] .ret) .skip)) (Bs [Am 23 0,Au 24 (.build [(.i .i64 0),(.i .i64 0),(.i .i64 0)] []),Au 25 (.bsi 3 1 [(.i .i64 0),(.i .i64 0),(.i .i64 0)] [(0,(.t 24))]),Au 26 (.app 3 24 (.t 23) (.t 25)),
 Am 0 26] (.seq (.drw [Am 27 0,Am 28 5,Ad 29 28 1,Au 30 (.slc 3 (.t 27) (some (.t 29)) none),Am 31 0,Am 32 5,Au 33 (.slc 3 (.t 31) (some (.t 32)) none),Au 34 (.copy 3 (.t 30) (.t 33))] []) (Bs [Am 35 0,Am 36 5,Ag 37 2 3,Au 38 (.build [(.i .i64 0),(.i .i64 0),(.i .i64 0)] [(0,2,(.t 37))]),Ai 39 3 35 36,As 3 39 38] (Bs [Am 40 0,Am 4 40] .ret)))))))
def L1o.r:List Rr:=[.tmp 4]
abbrev L1o.n:Nat:=41
def L1i.c (L1e L1o L1k:FuncId):C :=(Bs [Au 1 (.box (.t 0)),Az 2] (Bs [Az 3] (.seq (Bs [Af 8 1 1,Al 9 8,An 10 0 9,Ac 11 0] (.blk 0 (.loop (Bs [Aj .lss 12 11 10] (.seq (.ite (.t 12) .skip (.exit 0)) (.seq (.blk 1 (Bs [Ai 13 3 9 11,Ag 14 3 13,Au 5 (.alloc [(.i .i64 0),(.i .i64 0),(.i .i64 0)]),As 3 5 14] (Bs [Ag 15 3 5,Au 16 (.call L1e [.t 15]),An 17 0 16,Ac 18 0] (.blk 2 (.loop (Bs [Aj .lss 19 18 17] (.seq (.ite (.t 19) .skip (.exit 2)) (.seq (.blk 3 (Bs [Ai 20 2 16 18,Ag 21 2 20,Au 7 (.alloc [(.i .i64 0),(.i .i64 0)]),As 2 7 21] (Bs [Am 22 3,Ag 23 2 7,Au 24 (.call L1o [.t 22,.t 23]),Am 3 24] (.reg [
 Am 25 3,Am 26 3,Ag 27 2 7,Au 28 (.call L1k [.t 26,.t 27]),Ai 29 3 25 28,Af 30 2 29,Al 31 30,Ad 32 31 1,Ai 33 3 25 28,Af 34 2 33,As 1 34 32])))) (.reg [Ad 35 18 1,Am 18 35]))))))))) (.reg [Ad 36 11 1,Am 11 36]))))))) (Bs [Am 37 3,Am 2 37] .ret))))
def L1i.r:List Rr:=[.tmp 2]
abbrev L1i.n:Nat:=38
def L1n.c (L1e L1g L1o:FuncId):C :=(Bs [Au 1 (.box (.t 0)),Az 2] (Bs [Az 3] (.seq (Bs [Af 8 1 1,Al 9 8,An 10 0 9,Ac 11 0] (.blk 0 (.loop (Bs [Aj .lss 12 11 10] (.seq (.ite (.t 12) .skip (.exit 0)) (.seq (.blk 1 (Bs [Ai 13 3 9 11,Ag 14 3 13,Au 5 (.alloc [(.i .i64 0),(.i .i64 0),(.i .i64 0)]),As 3 5 14] (Bs [Ag 15 3 5,Au 16 (.call L1e [.t 15]),An 17 0 16,Ac 18 0] (.blk 2 (.loop (Bs [Aj .lss 19 18 17] (.seq (.ite (.t 19) .skip (.exit 2)) (.seq (.blk 3 (Bs [Ai 20 2 16 18,Ag 21 2 20,Au 7 (.alloc [(.i .i64 0),(.i .i64 0)]),As 2 7 21] (.reg [Am 22 3,Ag 23 2 7,Au 24 (.call L1g [.t 23]),Au 25 (.call L1o [.t 22,.t 24]),
 Am 3 25]))) (.reg [Ad 26 18 1,Am 18 26]))))))))) (.reg [Ad 27 11 1,Am 11 27]))))))) (Bs [Am 28 3,Am 2 28] .ret))))
def L1n.r:List Rr:=[.tmp 2]
abbrev L1n.n:Nat:=29
def L1c.c (L18 L1i L1l L1j:FuncId):C :=(Bs [Au 1 (.box (.t 0)),Az 2] (.seq (Bs [Ag 7 2 1,Au 8 (.call L18 [.t 7]),Ak .neq 9 8 0] (.ite (.t 9) (Bs [Az 2] .ret) .skip)) (Bs [Ag 10 2 1,Au 11 (.call L1i [.t 10]),Am 3 11] (Bs [Az 4] (.seq (Bs [Am 12 3,An 13 0 12,Ac 14 0] (.blk 0 (.loop (Bs [Aj .lss 15 14 13] (.seq (.ite (.t 15) .skip (.exit 0)) (.seq (.blk 1 (Bs [Ai 16 3 12 14,Ag 17 3 16,Au 6 (.alloc [(.i .i64 0),(.i .i64 0),(.i .i64 0)]),As 3 6 17] (.seq (.drw [Af 18 2 6,Al 19 18,Am 20 3,Af 21 0 6,Ag 22 2 21,Au 23 (.call L1l [.t 22]),Au 24 (.call L1j [.t 20,.t 23]),Aj .gtr 25 19 24] [[],[],[],[],[],[0,1],[0,1],[]])
 (.ite (.t 25) (.reg [Am 26 4,Af 27 0 6,Ag 28 2 27,Au 29 (.bsi 2 1 [(.i .i64 0),(.i .i64 0)] [(0,(.t 28))]),Au 30 (.app 2 16 (.t 26) (.t 29)),Am 4 30]) .skip)))) (.reg [Ad 31 14 1,Am 14 31]))))))) (Bs [Am 32 4,Am 2 32] .ret))))))
def L1c.r:List Rr:=[.tmp 2]
abbrev L1c.n:Nat:=33
def L1m.c (L1n L1e L1g L1k L1j:FuncId):C :=(Bs [Au 2 (.box (.t 0)),Az 4,Ab 5 false] (Bs [Ag 20 2 2,Au 21 (.call L1n [.t 20]),Am 6 21] (.seq (Bs [Am 22 6,An 23 0 22,Ac 24 0] (.blk 0 (.loop (Bs [Aj .lss 25 24 23] (.seq (.ite (.t 25) .skip (.exit 0)) (.seq (.blk 1 (Bs [Am 26 24,Am 7 26] (.reg [Am 27 6,Am 28 7,Am 29 1,An 30 0 29,Ai 31 3 27 28,Af 32 2 31,As 1 32 30]))) (.reg [Ad 33 24 1,Am 24 33]))))))) (.seq (Bs [Af 34 1 2,Al 35 34,An 36 0 35,Ac 37 0] (.blk 2 (.loop (Bs [Aj .lss 38 37 36] (.seq (.ite (.t 38) .skip (.exit 2)) (.seq (.blk 3 (Bs [Am 39 37,Ai 40 3 35 37,Ag 41 3 40,Au 9 (.alloc [(.i .i64 0),(.i .i64 0),(.i .i64 0)]),
 Am 8 39,As 3 9 41] (Bs [Ag 42 3 9,Au 43 (.call L1e [.t 42]),An 44 0 43,Ac 45 0] (.blk 4 (.loop (Bs [Aj .lss 46 45 44] (.seq (.ite (.t 46) .skip (.exit 4)) (.seq (.blk 5 (Bs [Ai 47 2 43 45,Ag 48 2 47,Au 11 (.alloc [(.i .i64 0),(.i .i64 0)]),As 2 11 48] (Bs [Am 49 6,Ag 50 2 11,Au 51 (.call L1g [.t 50]),Au 52 (.call L1k [.t 49,.t 51]),Am 12 52] (.drw [Am 53 6,Am 54 12,Am 55 6,Am 56 12,Ai 57 3 55 56,Af 58 2 57,Al 59 58,Am 60 1,Am 61 8,Ai 62 1 60 61,Al 63 62,Au 64 (.mn [.t 59,.t 63]),Ai 65 3 53 54,Af 66 2 65,As 1 66 64] [])))) (.reg [Ad 67 45 1,Am 45 67]))))))))) (.reg [Ad 68 37 1,Am 37 68])))))))
 (Bs [Az 13] (Bs [Ab 14 false] (.seq (Bs [Af 69 1 2,Al 70 69,An 71 0 70,Ac 72 0] (.blk 6 (.loop (Bs [Aj .lss 73 72 71] (.seq (.ite (.t 73) .skip (.exit 6)) (.seq (.blk 7 (Bs [Am 74 72,Ai 75 3 70 72,Ag 76 3 75,Au 16 (.alloc [(.i .i64 0),(.i .i64 0),(.i .i64 0)]),Am 15 74,As 3 16 76] (Bs [Am 77 1,Am 78 15,Ai 79 1 77 78,Al 80 79,Am 17 80] (.seq (Bs [Ag 81 3 16,Au 82 (.call L1e [.t 81]),An 83 0 82,Ac 84 0] (.blk 8 (.loop (Bs [Aj .lss 85 84 83] (.seq (.ite (.t 85) .skip (.exit 8)) (.seq (.blk 9 (Bs [Ai 86 2 82 84,Ag 87 2 86,Au 19 (.alloc [(.i .i64 0),(.i .i64 0)]),As 2 19 87] (.reg [Am 88 17,Am 89 6,
 Ag 90 2 19,Au 91 (.call L1g [.t 90]),Au 92 (.call L1j [.t 89,.t 91]),Au 93 (.mn [.t 88,.t 92]),Am 17 93]))) (.reg [Ad 94 84 1,Am 84 94]))))))) (Bs [Am 95 14,Am 96 95,Aw 97 96 (.mv (.t 17)),Aw 98 96 (.mv (.t 1)),Aw 99 96 (.mv (.t 15)),Aw 100 96 (.ia 1 (.t 98) (.t 99)),Aw 101 96 (.ld none (.t 100)),Aw 102 96 (.bin .neq (.t 97) (.t 101)),Ao 103 96 102,Am 14 103] (.reg [Am 104 13,Am 105 17,Au 106 (.bsi 1 1 [(.i .i64 0)] [(0,(.t 105))]),Au 107 (.app 1 8 (.t 104) (.t 106)),Am 13 107])))))) (.reg [Ad 108 72 1,Am 72 108]))))))) (Bs [Am 109 13,Am 110 14,Am 4 109,Am 5 110] .ret))))))))
def L1m.r:List Rr:=[.tmp 4,.tmp 5]
abbrev L1m.n:Nat:=111
def L1f.c (L18 L1m:FuncId):C :=(Bs [Au 1 (.box (.t 0)),Az 2] (.seq (Bs [Ag 10 2 1,Au 11 (.call L18 [.t 10]),Ak .neq 12 11 0] (.ite (.t 12) (Bs [Az 2] .ret) .skip)) (Bs [Az 3] (.seq (Bs [Af 13 1 1,Al 14 13,An 15 0 14,Ac 16 0] (.blk 0 (.loop (Bs [Aj .lss 17 16 15] (.seq (.ite (.t 17) .skip (.exit 0)) (.seq (.blk 1 (Bs [Am 18 16,Am 4 18] (.reg [Am 19 3,Am 20 4,Au 21 (.bsi 1 1 [(.i .i64 0)] [(0,(.t 20))]),Au 22 (.app 1 8 (.t 19) (.t 21)),Am 3 22]))) (.reg [Ad 23 16 1,Am 16 23]))))))) (.seq (Bs [Ab 5 true] (.blk 2 (.loop (.seq (Bs [Am 24 5] (.ite (.t 24) .skip (.exit 2))) (.blk 3 (.reg [Ag 26 2 1,Am 27 3,
 Au 28 (.call L1m [.t 26,.t 27]),Am 25 28,Ax1 29 0 25,Ax1 30 1 25,Am 3 29,Am 5 30])))))) (Bs [Az 6] (.seq (Bs [Am 31 3,An 32 0 31,Ac 33 0] (.blk 4 (.loop (Bs [Aj .lss 34 33 32] (.seq (.ite (.t 34) .skip (.exit 4)) (.seq (.blk 5 (Bs [Am 35 33,Am 7 35] (.seq (Bs [Am 36 3,Am 37 7,Ai 38 1 36 37,Al 39 38,Am 40 7,Aj .neq 41 39 40] (.ite (.t 41) (.exit 5) .skip)) (Bs [Az 8] (.seq (Bs [Am 42 7,Am 9 42] (.blk 6 (.loop (.seq (Bs [Am 43 9,Am 44 3,An 45 0 44,Aj .lss 46 43 45] (.ite (.t 46) .skip (.exit 6))) (.seq (.blk 7 (Bs [Am 49 3,Am 50 9,Ai 51 1 49 50,Al 52 51,Am 53 7,Aj .eql 54 52 53] (.ite (.t 54) (.reg [
 Am 55 8,Am 56 9,Au 57 (.bsi 1 1 [(.i .i64 0)] [(0,(.t 56))]),Au 58 (.app 1 8 (.t 55) (.t 57)),Am 8 58]) .skip))) (.reg [Am 47 9,Ad 48 47 1,Am 9 48])))))) (.reg [Am 59 6,Am 60 8,Au 61 (.bso 1 1 [.nil] [(0,(.t 60))]),Au 62 (.app 1 24 (.t 59) (.t 61)),Am 6 62])))))) (.reg [Ad 63 33 1,Am 33 63]))))))) (Bs [Am 64 6,Am 2 64] .ret))))))))
def L1f.r:List Rr:=[.tmp 2]
abbrev L1f.n:Nat:=65
def L1d.c (L18 L1c:FuncId):C :=(Bs [Au 1 (.box (.t 0)),Ab 2 false] (Bs [Ag 3 2 1,Au 4 (.call L18 [.t 3]),Ak .eql 5 4 0,Am 6 5,Av 7 6 (.ld (some 2) (.t 1)),Av 8 6 (.call L1c [.t 7]),Av 9 6 (.len 0 (.t 8)),Av 10 6 (.bin .eql (.t 9) (.c (.i .i64 0))),Ap 11 6 10,Am 2 11] .ret))
def L1d.r:List Rr:=[.tmp 2]
abbrev L1d.n:Nat:=12
def L1h.c:C :=(Bs [Au 2 (.box (.t 0)),Au 3 (.box (.t 1)),Ab 4 false] (Bs [Af 5 0 2,Al 6 5,Af 7 0 3,Al 8 7,Aj .lss 9 6 8,Am 10 9,Aw 11 10 (.fa 0 (.t 2)),Aw 12 10 (.ld none (.t 11)),Aw 13 10 (.fa 0 (.t 3)),Aw 14 10 (.ld none (.t 13)),Aw 15 10 (.bin .eql (.t 12) (.t 14)),Aw 16 10 (.mv (.t 15)),Av 17 16 (.fa 1 (.t 2)),Av 18 16 (.ld none (.t 17)),Av 19 16 (.fa 1 (.t 3)),Av 20 16 (.ld none (.t 19)),Av 21 16 (.bin .lss (.t 18) (.t 20)),Aw 22 10 (.pick (.t 16) (.t 21) (.c (.b false))),Ao 23 10 22,Am 4 23] .ret))
def L1h.r:List Rr:=[.tmp 4]
abbrev L1h.n:Nat:=24
def L1l.c:C :=(Bs [Au 1 (.box (.t 0)),Au 2 (.alloc [(.i .i64 0),(.i .i64 0)])] (Bs [Af 3 1 1,Al 4 3,Af 5 0 1,Al 6 5,Au 7 (.build [(.i .i64 0),(.i .i64 0)] [(0,1,(.t 4)),(1,1,(.t 6))]),As 2 2 7] .ret))
def L1l.r:List Rr:=[.cell 2 (some 2)]
abbrev L1l.n:Nat:=8
def L1g.c:C :=(Bs [Au 1 (.box (.t 0)),Au 2 (.alloc [(.i .i64 0),(.i .i64 0)])] (Bs [Af 3 0 1,Al 4 3,Af 5 1 1,Al 6 5,Au 7 (.mn [.t 4,.t 6]),Af 8 0 1,Al 9 8,Af 10 1 1,Al 11 10,Au 12 (.mx [.t 9,.t 11]),Au 13 (.build [(.i .i64 0),(.i .i64 0)] [(0,1,(.t 7)),(1,1,(.t 12))]),As 2 2 13] .ret))
def L1g.r:List Rr:=[.cell 2 (some 2)]
abbrev L1g.n:Nat:=14
def L1e.c:C :=(Bs [Au 1 (.box (.t 0)),Az 2] (Bs [Az 3] (Bs [Af 7 0 1,Al 8 7,Af 9 1 1,Al 10 9,Au 11 (.build [(.i .i64 0),(.i .i64 0)] [(0,1,(.t 8)),(1,1,(.t 10))]),Af 12 1 1,Al 13 12,Af 14 2 1,Al 15 14,Au 16 (.build [(.i .i64 0),(.i .i64 0)] [(0,1,(.t 13)),(1,1,(.t 15))]),Af 17 2 1,Al 18 17,Af 19 0 1,Al 20 19,Au 21 (.build [(.i .i64 0),(.i .i64 0)] [(0,1,(.t 18)),(1,1,(.t 20))]),Au 22 (.bso 2 3 [(.i .i64 0),(.i .i64 0)] [(0,(.t 11)),(1,(.t 16)),(2,(.t 21))]),Am 4 22] (.seq (Bs [Am 23 4,An 24 0 23,Ac 25 0] (.blk 0 (.loop (Bs [Aj .lss 26 25 24] (.seq (.ite (.t 26) .skip (.exit 0)) (.seq (.blk 1 (Bs [
 Ai 27 2 23 25,Ag 28 2 27,Au 6 (.alloc [(.i .i64 0),(.i .i64 0)]),As 2 6 28] (Bs [Af 29 0 6,Al 30 29,Af 31 1 6,Al 32 31,Aj .neq 33 30 32] (.ite (.t 33) (.reg [Am 34 3,Ag 35 2 6,Au 36 (.bsi 2 1 [(.i .i64 0),(.i .i64 0)] [(0,(.t 35))]),Au 37 (.app 2 16 (.t 34) (.t 36)),Am 3 37]) .skip)))) (.reg [Ad 38 25 1,Am 25 38]))))))) (Bs [Am 39 3,Am 2 39] .ret)))))
def L1e.r:List Rr:=[.tmp 2]
abbrev L1e.n:Nat:=40
def Qbr (P:Program) (f:FuncId):Prop:=∀a b:P2,CallIs P f [a.enc,b.enc] (.b (decide (P2.lt a b)))
def Q52 (P:Program) (f:FuncId):Prop:=∀(l:List Use) (e:P2),Ju l->l.length<=1000000->CallIs P f [Jz l,e.enc] (.i .i64 (pl l e))
def Q86 (P:Program) (f:FuncId):Prop:=∀(l:List Use) (e:P2),Ju l->l.length<=1000000->CallIs P f [Jz l,e.enc] (.i .i64 (K3 l e))
theorem Q00 (u:Use):uCs u=[.i .i64 u.1.x,.i .i64 u.1.y,.i .i64 u.2]:=Rfl rfl
theorem Ud (l:List Use):∀el∈l.map uCs,∀x∈el,x.isD=true:=by
 intro el hel x hx;obtain⟨u,_,rfl⟩:=qo.1 hel;simp[uCs]at hx
 rcases hx with rfl | rfl | rfl<;>rfl
theorem Qov (a b:P2):decide (a=b)=(a.x == b.x && a.y == b.y):=by cases a;cases b;rw[Bool.eq_iff_iff];simp[P2.mk.injEq]
theorem quo2 (a:Nat):((a:Int)).tdiv 2=((a / 2:Nat):Int):=by
 rw[Int.tdiv_eq_ediv_of_nonneg (by omega)];omega
section
variable {P:Program} (hm:P.follows .mixedOrders=true)
include hm
theorem Q6b {f:FuncId} (hf:Q5 P f L1h.c L1h.r L1h.n):Qbr P f:=by
 intro a b;refine PI hm hf ?_;unfold L1h.c;by_cases h1:a.x<b.x
 ·simp[go_sem,P2.enc,pcs,h1,L1h.r,P2.lt]
 ·by_cases h2:a.x=b.x
  ·simp[go_sem,P2.enc,pcs,h1,h2,L1h.r,P2.lt]
  ·simp[go_sem,P2.enc,pcs,h1,h2,show (a.x == b.x)=false by simp[h2],L1h.r,P2.lt]
theorem Bi {f:FuncId} (hf:Q5 P f L1g.c L1g.r L1g.n):Qnu P f:=Kx hm hf
theorem Q3n {f:FuncId} (hf:Q5 P f L1l.c L1l.r L1l.n):Qts P f:=E3 hm hf
theorem Q1t {f:FuncId} (hf:Q5 P f L1e.c L1e.r L1e.n):Xf P f:=by
 intro t;refine PI hm hf ?_;unfold L1e.c;simp[go_sem,T3.enc,T3.cs];have w1:IntKind.i64.wrap 1=1:=rfl;have w2:IntKind.i64.wrap 2=2:=rfl;have w3:IntKind.i64.wrap 3=3:=rfl;refine Qi [.t 3 2] (α:=Nat) (λk=>k<=3)
  (λk=>⟨[(3,.own 2 ((Qz t k).length+1) 0 (Qz t k).length),(23,.own 1 1 0 3),(24,.i .i64 3),(25,.i .i64 k)],
   [.dead,.arr 1 2 [[.i .i64 t.a,.i .i64 t.b],[.i .i64 t.b,.i .i64 t.c],[.i .i64 t.c,.i .i64 t.a]],.arr ((Qz t k).length+1) 2 ((Qz t k).map P2.cs)]⟩)
  (λk=>3-k) 0 (by omega) ?_ ?_
 ·simp[go_sem,Qb9,V.cl,V.cl1,V.cl0]
 ·intro k hk;have hl:=Zj t k;by_cases h3:k=3
  ·subst h3;simp[go_sem,L1e.r,psV,Q4,Q9p]
  ·have:k=0∨k=1∨k=2:=by omega
   rcases this with rfl | rfl | rfl
   ·have hs:=Qb8 t;generalize hE:Qz t 0=E0 at hs hl;by_cases h:t.a=t.b
    ·rw[if_pos h]at hs
     simp[go_sem,h,w1,w2,w3];exact⟨1,by omega,by omega,by simp[hs],by simp[hs],by simp[Yb]⟩
    ·rw[if_neg h]at hs
     simp[go_sem,h,w1,w2,w3];exact⟨by omega,1,by omega,by omega,by simp[hs],by simp[hs,pcs,or_imp,forall_and,V.cl,V.cl1,V.cl0]⟩
   ·have hs:=Qb7 t;generalize hE:Qz t 1=E0 at hs hl;by_cases h:t.b=t.c
    ·rw[if_pos h]at hs
     simp[go_sem,h,w1,w2,w3];exact⟨2,by omega,by omega,by simp[hs],by simp[hs],by simp[Yb]⟩
    ·rw[if_neg h]at hs
     simp[go_sem,h,w1,w2,w3];exact⟨by omega,2,by omega,by omega,by simp[hs],by simp[hs,pcs,or_imp,forall_and,V.cl,V.cl1,V.cl0]⟩
   ·have hs:=Qb6 t;generalize hE:Qz t 2=E0 at hs hl;by_cases h:t.c=t.a
    ·rw[if_pos h]at hs
     simp[go_sem,h,w1,w2,w3];exact⟨3,by omega,by omega,by simp[hs],by simp[hs],by simp[Yb]⟩
    ·rw[if_neg h]at hs
     simp[go_sem,h,w1,w2,w3];exact⟨by omega,3,by omega,by omega,by simp[hs],by simp[hs,pcs,or_imp,forall_and,V.cl,V.cl1,V.cl0]⟩
theorem Q9c {f fb:FuncId} (hf:Q5 P f (L1k.c fb) L1k.r L1k.n) (hb:Qbr P fb):Q52 P f:=by
 intro l e hasc hl;have hpl:=Qjh l e;refine PI hm hf ?_;unfold L1k.c;simp[go_sem,P2.enc,pcs,Jz];refine Q8 (α:=Nat × Nat) (λp=>p.1<=pl l e/\pl l e<=p.2/\p.2<=l.length) (λp=>⟨[(0,Jz l),(3,.p 0 1 0 0),(5,.i .i64 p.1),(6,.i .i64 p.2)],[.arr 1 2 [e.cs]]⟩) (λp=>p.2-p.1) (0,l.length) ⟨by omega,by omega,by omega⟩ ?_ ?_
 ·simp[go_sem,Jz,pcs]
 ·rintro⟨lo,hi⟩ ⟨h1,h2,h3⟩;simp only at h1 h2 h3 ⊢;by_cases hlh:lo<hi
  ·obtain⟨mid,hmd⟩:∃mid,mid=(lo+hi) / 2:=⟨_,rfl⟩
   have hq:IntKind.i64.wrap (((lo:Int)+(hi:Int)).tdiv 2)=(mid:Int):=by
    rw[<- Int.natCast_add,quo2,hmd];exact Q0 (by omega) (by omega)
   have hm1:lo<=mid:=by omega
   have hm2:mid<hi:=by omega
   clear hmd;have hmid:mid<l.length:=by omega
   have hp:l[mid]?=some l[mid]:=q9 hmid;have hsp:=K9 (e:=e) hasc hp;generalize l[mid]=u at hp hsp;obtain⟨_,hp'⟩:=q8.1 hp;have hb1:=hb u.1 e;simp only[P2.enc,pcs]at hb1;simp (disch:=omega) [go_sem,Jz,pcs,hlh,Q0,hq,hp,hp',Q00,hmid];refine Qa hb1 ?_;by_cases hue:P2.lt u.1 e
   ·have:=hsp.1 hue;simp (disch:=omega) [go_sem,Jz,pcs,hue,Q0];exact⟨mid+1,hi,⟨by omega,by omega,by omega⟩,by omega,by simp,rfl⟩
   ·have:¬ mid<pl l e:=λh=>hue (hsp.2 h)
    simp (disch:=omega) [go_sem,Jz,pcs,hue,Q0];exact⟨lo,mid,⟨by omega,by omega,by omega⟩,by omega,rfl,rfl⟩
  ·obtain rfl:lo=hi:=by omega
   obtain rfl:lo=pl l e:=by omega
   simp[go_sem,Jz,pcs,L1k.r]
theorem Q69 {f fp:FuncId} (hf:Q5 P f (L1j.c fp) L1j.r L1j.n) (hp:Q52 P fp):Q86 P f:=by
 intro l e hasc hl;have hpl:=Qjh l e;refine PI hm hf ?_;unfold L1j.c;have hp1:=hp l e hasc hl;simp only[P2.enc,pcs,Jz]at hp1;simp[go_sem,P2.enc,pcs,Jz];refine Q2 hp1 ?_;by_cases hlt:pl l e<l.length
 ·have hq:l[pl l e]?=some l[pl l e]:=q9 hlt;have hn:K3 l e=if l[pl l e].1=e then l[pl l e].2 else 0:=by
   unfold K3;simp[hq]
  generalize l[pl l e]=u at hq hn;obtain⟨_,hq'⟩:=q8.1 hq;by_cases hue:u.1=e
  ·rw[if_pos hue]at hn
   rw[hn];have he:=Qov u.1 e;rw[decide_eq_true hue]at he
   simp (disch:=omega) [go_sem,hlt,hq,hq',Q00,<- he,L1j.r]
  ·rw[if_neg hue]at hn
   rw[hn];have he:=Qov u.1 e;rw[decide_eq_false hue]at he
   simp (disch:=omega) [go_sem,hlt,hq,hq',Q00,<- he,L1j.r]
 ·have hn:K3 l e=0:=by
   unfold K3;rw[qk (by omega)]
  rw[hn];simp (disch:=omega) [go_sem,hlt,L1j.r]
end
theorem Qly {h:List O} {id n:Nat} {o:O} (hc:∀o∈h,o.cl n) (ho:o.cl n):∀o'∈h.set id o,o'.cl n:=by
 intro o' ho';rcases List.mem_or_eq_of_mem_set ho' with h1 | rfl
 ·exact hc o' h1
 ·exact ho
theorem Q19 {n:Nat} {h l:List O} (hc:∀o∈h,o.cl n):WeakH n (h++l) h:=by
 have:=Qn (n:=n) (a:=l) (b:=[]) hc (by cases l<;>trivial)
 rwa [List.append_nil]at this
theorem X1 {h l:List O} {id:Nat} {o:O} (ho:h[id]?=some o):(h++l)[id]?=some o:=by
 rw[qd (q8.1 ho).1,ho]
theorem Ua {h:List O} (l:List O) {id:Nat} (hid:id<h.length) (o:O):(h++l).set id o=h.set id o++l:=List.set_append_left _ _ hid
theorem Up {h:List O} {id g sz n:Nat} {els:List (List V)} (ho:h[id]?=some (.arr g sz els)) (hn:els.length=n) (hd:∀el∈els,∀x∈el,x.isD=true) {vs us:List V} (hr:Zh h vs=some us) :
  Zh h (.own id g 0 n::vs)=some (.l sz els::us):=by
 subst hn;have ha:(els.all λx=>x.all V.isD)=true:=by rw[qj];exact λel hel=>qj.2 (hd el hel)
 have h1:frz h (.own id g 0 els.length)=some (.l sz els):=by simp[frz,Ys,ho,ha]
 unfold Zh at hr ⊢;simp[h1,hr]
theorem Qlv {α:Type} (l:List α) (z:α) {j:Nat} (h:j<=l.length):∃c,(c=z∨c∈l) /\
  List.take (j+1) (l++[z])++(List.take (l.length-j) (List.take (l.length+1-j) (List.drop j (l++[z])))++List.drop (j+1+(l.length-j)) (l++[z]))=l.take j++c::l.drop j:=by
 have e1:List.drop j (l++[z])=l.drop j++[z]:=List.drop_append_of_le_length h;have e2:List.take (l.length-j) (List.take (l.length+1-j) (l.drop j++[z]))=l.drop j:=by
  rw[List.take_take,Nat.min_eq_left (by omega),List.take_append_of_le_length (by simp)];exact qe (by simp)
 have e3:List.drop (j+1+(l.length-j)) (l++[z])=[]:=List.drop_eq_nil_of_le (by simp;omega);have hj:j<(l++[z]).length:=by simp;omega
 refine⟨(l++[z])[j],?_,?_⟩
 ·have:=List.getElem_mem hj;rw[qg,qn]at this
  exact this.symm
 ·rw[e1,e2,e3,List.take_add_one,q9 hj,List.take_append_of_le_length h];simp
def Qpu (P:Program) (f:FuncId):Prop:=∀(l:List Use) (e:P2),Ju l->l.length<=1000000->∀(h:List O) (id:Nat),h[id]?=some (.arr (l.length+1) 3 (l.map uCs)) ->
 ACall P f [.own id (l.length+1) 0 l.length,e.enc] h (λr h'=>r=.own id ((Zo l e).length+1) 0 (Zo l e).length/\h'=h.set id (.arr ((Zo l e).length+1) 3 ((Zo l e).map uCs)))
section
variable {P:Program} (hm:P.follows .mixedOrders=true)
include hm
theorem Qcg {f fp:FuncId} (hf:Q5 P f (L1o.c fp) L1o.r L1o.n) (hp:Q52 P fp):Qpu P f:=by
 intro l e hasc hl h id ho;have hid:id<h.length:=(q8.1 ho).1;have hpl:=Qjh l e;refine Kh λhcl=>?_
 refine Uw hm hf (qh rfl) ?_;unfold L1o.c;have hg:∀l2:List O,(h++l2)[id]?=_:=λl2=>X1 ho
 have hs:∀(l2:List O) (o:O),(h++l2).set id o=h.set id o++l2:=λl2 o=>Ua l2 hid o
 have hg2:∀(o:O) (l2:List O),(h.set id o++l2)[id]?=some o:=λo l2=>X1 (by rw[qm hid])
 have hg3:∀(o:O) (l2:List O),(h.set id o++l2)[h.length]?=l2[0]?:=λo l2=>by rw[qf (by simp)];simp
 have hs2:∀(o o':O) (l2:List O),(h.set id o++l2).set id o'=h.set id o'++l2:=λo o' l2=>by rw[Ua _ (by simpa using hid),List.set_set]
 simp[go_sem,P2.enc,pcs,Qf,Qc,Qk,Qm,hg];refine Xg (vs:=[Jz l,e.enc]) ?_ ((hp l e hasc hl) []) rfl ?_
 ·exact Up (hg _) (by simp) (Ud l) (by simp[Zh,frz,Ys,P2.enc,pcs])
 by_cases hhas:Q4j l e=true
 ·have hw:Zo l e=l:=by simp[Zo,hhas]
  rw[hw];unfold Q4j at hhas;split at hhas
  case h_2=>simp at hhas
  rename_i u hq;obtain⟨hlt,hq'⟩:=q8.1 hq;have he:=Qov u.1 e;rw[hhas]at he
  have hsame:h.set id (O.arr (l.length+1) 3 (List.map uCs l))=h:=by
   apply qy;intro j;by_cases hj:id=j
   ·subst hj;rw[qm hid,ho]
   ·rw[qt hj]
  simp (disch:=omega) [go_sem,Qf,Qc,Qk,Qm,hg,hlt,hq,hq',Q00,<- he,L1o.r];rw[hsame];exact⟨_,hid,Nat.le_refl _,by omega,Q19 (hcl _ (Nat.le_refl _)),rfl⟩
 ·have hw:Zo l e=l.take (pl l e)++(e,0)::l.drop (pl l e):=by simp[Zo,hhas]
  obtain⟨c,hc,hX⟩:=Qlv (l.map uCs) [V.i .i64 0,V.i .i64 0,V.i .i64 0] (j:=pl l e) (by simpa using hpl);rw[List.length_map]at hX
  have hc3:∃c1 c2 c3:Int,c=[.i .i64 c1,.i .i64 c2,.i .i64 c3]:=by
   rcases hc with rfl | hc
   ·exact⟨0,0,0,rfl⟩
   ·obtain⟨u,_,rfl⟩:=qo.1 hc;exact⟨u.1.x,u.1.y,u.2,rfl⟩
  obtain⟨c1,c2,c3,rfl⟩:=hc3;have htl:(List.take (pl l e) (l.map uCs)).length=pl l e:=by simp;omega
  have hXg:∀c:List V,(List.take (pl l e) (l.map uCs)++c::List.drop (pl l e) (l.map uCs))[pl l e]?=some c:=λc=>by
   rw[qf (by omega),htl];simp
  have hXs:∀c d:List V,(List.take (pl l e) (l.map uCs)++c::List.drop (pl l e) (l.map uCs)).set (pl l e) d=List.take (pl l e) (l.map uCs)++d::List.drop (pl l e) (l.map uCs):=λc d=>by
   rw[jq _ _ (by omega),htl];simp
  have hwm:(Zo l e).map uCs=List.take (pl l e) (l.map uCs)++uCs (e,0)::List.drop (pl l e) (l.map uCs):=by rw[hw];simp
  have hwl:(Zo l e).length=l.length+1:=by rw[hw];simp;omega
  rw[hwl,hwm];have hfin:∃x:List O,id<x.length/\h.length<=x.length/\x.length<=h.length+1 /\
    WeakH x.length (h.set id (.arr (l.length+1+1) 3 (List.take (pl l e) (l.map uCs)++[.i .i64 e.x,.i .i64 e.y,.i .i64 0]::List.drop (pl l e) (l.map uCs)))++[.arr 1 2 [[.i .i64 e.x,.i .i64 e.y]]]) x /\
    x=h.set id (.arr (l.length+1+1) 3 (List.take (pl l e) (l.map uCs)++[.i .i64 e.x,.i .i64 e.y,.i .i64 0]::List.drop (pl l e) (l.map uCs))):=by
   refine⟨_,by simpa using hid,by simp,by simp,Q19 (Qly (hcl _ (by simp)) ?_),rfl⟩;intro el hel x hx;rw[<- show uCs (e,0)=[.i .i64 e.x,.i .i64 e.y,.i .i64 0] from rfl,<- hwm]at hel
   exact K4 _ (Ud _ el hel x hx)
  have hnb:(decide (pl l e<l.length) && (match l[pl l e]? with | some u=>(u.1.x == e.x && u.1.y == e.y) | none=>false))=false:=by
   unfold Q4j at hhas;split at hhas
   ·rename_i u hq;rw[hq];have he:=Qov u.1 e;simp only;rw[<- he];simpa using λ_=>hhas
   ·rename_i hq;rw[hq];simp
  by_cases hlt:pl l e<l.length
  ·have hq:l[pl l e]?=some l[pl l e]:=q9 hlt;rw[hq]at hnb
   generalize l[pl l e]=u at hq hnb;obtain⟨_,hq'⟩:=q8.1 hq;simp only[hlt,decide_true,Bool.true_and]at hnb;generalize pl l e=j at *
   simp (disch:=omega) [go_sem,Qf,Qc,Qk,Qm,hg,hg2,hg3,hs,hs2,hlt,hq,hq',Q00,hnb,Q0,show (0<=(j:Int)+1) by omega,show j+1<=l.length+1 by omega,show j<=l.length+1 by omega,hX,hXg,hXs,L1o.r];exact⟨⟨by omega,by omega⟩,by omega,hfin⟩
  ·have hj:pl l e=l.length:=by omega
   rw[hj]at hfin
   have ht0:List.take l.length (l.map uCs)=l.map uCs:=qe (by simp);have hd0:List.drop l.length (l.map uCs)=[]:=List.drop_eq_nil_of_le (by simp);have hg5:∀c:List V,(l.map uCs++[c])[l.length]?=some c:=λc=>by rw[qf (by simp)];simp
   have hs5:∀c d:List V,(l.map uCs++[c]).set l.length d=l.map uCs++[d]:=λc d=>by rw[jq _ _ (by simp)];simp
   rw[ht0,hd0]at hfin
   simp (disch:=omega) [go_sem,Qf,Qc,Qk,Qm,hg,hg2,hg3,hs,hs2,hj,Q00,Q0,show (0<=(l.length:Int)+1) by omega,ht0,hd0,hg5,hs5,L1o.r];exact⟨⟨by omega,by omega⟩,hfin⟩
end
end Go.Abs
