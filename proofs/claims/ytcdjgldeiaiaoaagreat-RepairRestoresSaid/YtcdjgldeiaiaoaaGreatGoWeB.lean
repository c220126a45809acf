/- Part of the library on which the proof stands: an abstract machine, its values and its soundness against the model; or what functions of the program do to such values. -/
import Derived.Test.YtcdjgldeiaiaoaaGreatGoWeA
import Derived.Test.YtcdjgldeiaiaoaaGreatGoHeap
import Derived.Test.YtcdjgldeiaiaoaaGreatGoOriB
set_option linter.unusedVariables false
set_option linter.unusedSimpArgs false
namespace Go.Abs
def L1t.c (L08 L1w:FuncId):C :=(.seq (.reg [Au 1 (.box (.t 0)),Au 2 (.alloc [.nil,.nil]),Ac 3 0,Ac 4 0]) (.seq (.seq (.reg [Ag 12 2 1,Au 13 (.call L08 [.t 12]),Am 5 13]) (.seq (.reg [Am 14 5,Ak .neq 15 14 0]) (.ite (.t 15) (.seq (.reg [Au 16 (.build [.nil,.nil] []),Am 17 5,As 2 2 16,Ac 3 0,Am 4 17]) .ret) .skip))) (.seq (.reg [Ag 18 2 1,Au 19 (.call L1w [.t 18]),Au 20 (.build [.nil,.nil] [(0,1,(.t 19))]),Au 6 (.alloc [.nil,.nil]),As 2 6 20]) (.seq (.reg [Af 21 0 6,Al 22 21,An 23 0 22,Au 24 (.mkm (some (.t 23))),Am 7 24]) (.seq (.seq (.reg [Af 25 0 6,Al 26 25,An 27 0 26,Ac 28 0]) (.blk 0 (.loop
 (.seq (.reg [Aj .lss 29 28 27]) (.seq (.ite (.t 29) .skip (.exit 0)) (.seq (.blk 1 (.seq (.reg [Am 30 28,Ai 31 3 26 28,Ag 32 3 31,Au 9 (.alloc [(.i .i64 0),(.i .i64 0),(.i .i64 0)]),Am 8 30,As 3 9 32]) (.reg [Am 33 7,Ag 34 3 9,Am 35 8,⟨none,none,.mup [1,1,1] (.t 33) (.t 34) (.t 35)⟩]))) (.reg [Ad 36 28 1,Am 28 36]))))))) (.seq (.seq (.reg [Af 37 1 1,Al 38 37,An 39 0 38,Ac 40 0]) (.blk 2 (.loop (.seq (.reg [Aj .lss 41 40 39]) (.seq (.ite (.t 41) .skip (.exit 2)) (.seq (.blk 3 (.seq (.reg [Ai 42 3 38 40,Ag 43 3 42,Au 11 (.alloc [(.i .i64 0),(.i .i64 0),(.i .i64 0)]),As 3 11 43]) (.drw [Af 44 1 6,
 Al 45 44,Am 46 7,Af 47 0 1,Al 48 47,Af 49 0 11,Al 50 49,Ai 51 3 48 50,Ag 52 3 51,Au 53 (.lk [1,1,1] (.i .i64 0) false (.t 46) (.t 52)),Am 54 7,Af 55 0 1,Al 56 55,Af 57 1 11,Al 58 57,Ai 59 3 56 58,Ag 60 3 59,Au 61 (.lk [1,1,1] (.i .i64 0) false (.t 54) (.t 60)),Am 62 7,Af 63 0 1,Al 64 63,Af 65 2 11,Al 66 65,Ai 67 3 64 66,Ag 68 3 67,Au 69 (.lk [1,1,1] (.i .i64 0) false (.t 62) (.t 68)),Au 70 (.build [(.i .i64 0),(.i .i64 0),(.i .i64 0)] [(0,1,(.t 53)),(1,1,(.t 61)),(2,1,(.t 69))]),Au 71 (.bsi 3 1 [(.i .i64 0),(.i .i64 0),(.i .i64 0)] [(0,(.t 70))]),Au 72 (.app 3 24 (.t 45) (.t 71)),Af 73 1 6,As 1 73 72] [])))
 (.reg [Ad 74 40 1,Am 40 74]))))))) (.seq (.drw [Ag 75 2 6,Af 76 0 1,Al 77 76,An 78 0 77,Af 79 0 6,Al 80 79,An 81 0 80,Aj .sub 82 78 81,As 2 2 75,Am 3 82,Ac 4 0] [[],[],[],[],[],[],[],[],[1,2,3,4,5,6],[],[]]) .ret)))))))
def L1t.r:List Rr:=[.cell 2 (some 2),.tmp 3,.tmp 4]
abbrev L1t.n:Nat:=83
def L1r.c (L08 L16 L1v L1i:FuncId):C :=(.seq (.reg [Au 1 (.box (.t 0)),Au 2 (.alloc [.nil,.nil]),Ac 3 0,Ac 4 0,Ac 5 0]) (.seq (.seq (.reg [Ag 14 2 1,Au 15 (.call L08 [.t 14]),Am 6 15]) (.seq (.reg [Am 16 6,Ak .neq 17 16 0]) (.ite (.t 17) (.seq (.reg [Au 18 (.build [.nil,.nil] []),Am 19 6,As 2 2 18,Ac 3 0,Ac 4 0,Am 5 19]) .ret) .skip))) (.seq (.reg [Af 20 0 1,Al 21 20,Au 22 (.call L16 [.t 21]),Au 23 (.build [.nil,.nil] [(0,1,(.t 22))]),Au 7 (.alloc [.nil,.nil]),As 2 7 23]) (.seq (.reg [Au 24 (.mkm none),Am 8 24]) (.seq (.reg [Ac 9 0,Ac 10 0]) (.seq (.seq (.reg [Af 25 1 1,Al 26 25,An 27 0 26,Ac 28 0])
 (.blk 0 (.loop (.seq (.reg [Aj .lss 29 28 27]) (.seq (.ite (.t 29) .skip (.exit 0)) (.seq (.blk 1 (.seq (.reg [Ai 30 3 26 28,Ag 31 3 30,Au 12 (.alloc [(.i .i64 0),(.i .i64 0),(.i .i64 0)]),As 3 12 31]) (.seq (.reg [Ag 32 3 12,Au 33 (.call L1v [.t 32]),Au 13 (.alloc [(.i .i64 0),(.i .i64 0),(.i .i64 0)]),As 3 13 33]) (.blk 2 (.seq (.drw [Af 43 0 1,Al 44 43,Af 45 0 12,Al 46 45,Ai 47 3 44 46,Ag 48 3 47,Af 49 0 1,Al 50 49,Af 51 1 12,Al 52 51,Ai 53 3 50 52,Ag 54 3 53,Af 55 0 1,Al 56 55,Af 57 2 12,Al 58 57,Ai 59 3 56 58,Ag 60 3 59,Au 61 (.call L1i [.t 48,.t 54,.t 60]),Am 42 61] []) (.ite (.t 42) (.reg [
 Am 62 9,Ad 63 62 1,Am 9 63]) (.seq (.reg [Am 65 8,Ag 66 3 13,Au 67 (.lk [1,1,1] (.b false) false (.t 65) (.t 66)),Am 64 67]) (.ite (.t 64) (.reg [Am 68 10,Ad 69 68 1,Am 10 69]) (.seq (.reg [Am 34 8,Ag 35 3 13,⟨none,none,.mup [1,1,1] (.t 34) (.t 35) (.c (.b true))⟩]) (.reg [Af 36 1 7,Al 37 36,Ag 38 3 12,Au 39 (.bsi 3 1 [(.i .i64 0),(.i .i64 0),(.i .i64 0)] [(0,(.t 38))]),Au 40 (.app 3 24 (.t 37) (.t 39)),Af 41 1 7,As 1 41 40])))))))))) (.reg [Ad 70 28 1,Am 28 70]))))))) (.seq (.reg [Ag 71 2 7,Am 72 9,Am 73 10,As 2 2 71,Am 3 72,Am 4 73,Ac 5 0]) .ret)))))))
def L1r.r:List Rr:=[.cell 2 (some 2),.tmp 3,.tmp 4,.tmp 5]
abbrev L1r.n:Nat:=74
def L1s.c (L09 L1i:FuncId):C :=(.seq (.reg [Au 2 (.box (.t 0)),Ab 4 false]) (.seq (.reg [Ag 10 2 2,Am 11 1,Au 12 (.call L09 [.t 10,.t 11]),Am 9 12,Ax1 13 0 9,Ax1 14 1 9,Ax1 15 2 9,Ax1 16 3 9,Au 5 (.alloc [(.i .i64 0),(.i .i64 0),(.i .i64 0)]),Au 6 (.alloc [(.i .i64 0),(.i .i64 0),(.i .i64 0)]),Au 7 (.alloc [(.i .i64 0),(.i .i64 0),(.i .i64 0)]),As 3 5 13,As 3 6 14,As 3 7 15,Am 8 16]) (.seq (.reg [Am 17 8,Am 18 17,Av 19 18 (.ld (some 3) (.t 5)),Av 20 18 (.ld (some 3) (.t 6)),Av 21 18 (.ld (some 3) (.t 7)),Av 22 18 (.call L1i [.t 19,.t 20,.t 21]),Ap 23 18 22,Am 4 23]) .ret)))
def L1s.r:List Rr:=[.tmp 4]
abbrev L1s.n:Nat:=24
def L1w.c (slices_SortFunc_api_Vec_api_Vec L1x:FuncId):C :=(.seq (.reg [Au 1 (.box (.t 0)),Az 2]) (.seq (.reg [Au 10 (.mkm none),Am 3 10]) (.seq (.reg [Az 4]) (.seq (.seq (.reg [Af 11 1 1,Al 12 11,An 13 0 12,Ac 14 0]) (.blk 0 (.loop (.seq (.reg [Aj .lss 15 14 13]) (.seq (.ite (.t 15) .skip (.exit 0)) (.seq (.blk 1 (.seq (.reg [Ai 16 3 12 14,Ag 17 3 16,Au 6 (.alloc [(.i .i64 0),(.i .i64 0),(.i .i64 0)]),As 3 6 17]) (.seq (.reg [Af 18 0 6,Al 19 18,Af 20 1 6,Al 21 20,Af 22 2 6,Al 23 22,Au 24 (.build [(.i .i64 0),(.i .i64 0),(.i .i64 0)] [(0,1,(.t 19)),(1,1,(.t 21)),(2,1,(.t 23))]),Ac 25 0]) (.blk 2
 (.loop (.seq (.reg [Ak .lss 26 25 3]) (.seq (.ite (.t 26) .skip (.exit 2)) (.seq (.blk 3 (.seq (.reg [Au 27 (.ix 3 1 none (.t 24) (.t 25)),Am 8 27]) (.seq (.reg [Af 28 0 1,Al 29 28,Am 30 8,Ai 31 3 29 30,Ag 32 3 31,Au 9 (.alloc [(.i .i64 0),(.i .i64 0),(.i .i64 0)]),As 3 9 32]) (.seq (.reg [Am 33 3,Ag 34 3 9,Au 35 (.lk [1,1,1] (.b false) false (.t 33) (.t 34)),Au 36 (.un .not (.t 35))]) (.ite (.t 36) (.seq (.reg [Am 37 3,Ag 38 3 9,⟨none,none,.mup [1,1,1] (.t 37) (.t 38) (.c (.b true))⟩]) (.reg [Am 39 4,Ag 40 3 9,Au 41 (.bsi 3 1 [(.i .i64 0),(.i .i64 0),(.i .i64 0)] [(0,(.t 40))]),Au 42 (.app 3 24 (.t 39) (.t 41)),
 Am 4 42])) .skip))))) (.reg [Ad 43 25 1,Am 25 43]))))))))) (.reg [Ad 44 14 1,Am 14 44]))))))) (.seq (.reg [Am 45 4,Au 46 (.call slices_SortFunc_api_Vec_api_Vec [.t 45,(.c (.f L1x []))])]) (.seq (.reg [Am 47 4,Am 2 47]) .ret))))))
def L1w.r:List Rr:=[.tmp 2]
abbrev L1w.n:Nat:=48
def L1v.c (L1u:FuncId):C :=(.seq (.reg [Au 1 (.box (.t 0)),Au 2 (.alloc [(.i .i64 0),(.i .i64 0),(.i .i64 0)])]) (.seq (.reg [Ag 4 3 1,Au 3 (.alloc [(.i .i64 0),(.i .i64 0),(.i .i64 0)]),As 3 3 4]) (.seq (.seq (.reg [Ac 5 0]) (.blk 0 (.loop (.seq (.reg [Ak .lss 6 5 2]) (.seq (.ite (.t 6) .skip (.exit 0)) (.seq (.blk 1 (.seq (.reg [Af 7 1 1,Al 8 7,Af 9 2 1,Al 10 9,Af 11 0 1,Al 12 11,Au 13 (.build [(.i .i64 0),(.i .i64 0),(.i .i64 0)] [(0,1,(.t 8)),(1,1,(.t 10)),(2,1,(.t 12))]),As 3 1 13]) (.seq (.reg [Ag 14 3 1,Ag 15 3 3,Au 16 (.call L1u [.t 14,.t 15])]) (.ite (.t 16) (.reg [Ag 17 3 1,As 3 3 17])
 .skip)))) (.reg [Ad 18 5 1,Am 5 18]))))))) (.seq (.reg [Ag 19 3 3,As 3 2 19]) .ret))))
def L1v.r:List Rr:=[.cell 2 (some 3)]
abbrev L1v.n:Nat:=20
def L1i.c (L1o L1n L1j:FuncId):C :=(.seq (.reg [Au 3 (.box (.t 0)),Au 4 (.box (.t 1)),Au 5 (.box (.t 2)),Ab 6 false]) (.seq (.drw [Ag 7 3 3,Au 8 (.call L1o [.t 7]),Am 9 8,Av 10 9 (.ld (some 3) (.t 4)),Av 11 9 (.call L1o [.t 10]),Ap 12 9 11,Am 13 12,Av 14 13 (.ld (some 3) (.t 5)),Av 15 13 (.call L1o [.t 14]),Ap 16 13 15,Am 17 16,Av 18 17 (.ld (some 3) (.t 4)),Av 19 17 (.ld (some 3) (.t 3)),Av 20 17 (.call L1n [.t 18,.t 19]),Av 21 17 (.ld (some 3) (.t 5)),Av 22 17 (.ld (some 3) (.t 3)),Av 23 17 (.call L1n [.t 21,.t 22]),Av 24 17 (.call L1j [.t 20,.t 23]),Av 25 17 (.build [(.i .i64 0),(.i .i64 0),(.i .i64 0)] []),
 Av 26 17 (.eqa [1,1,1] false (.t 24) (.t 25)),Ap 27 17 26,Am 6 27] [[],[],[],[],[],[],[],[],[],[],[],[],[],[],[13],[13],[],[],[],[],[],[]]) .ret))
def L1i.r:List Rr:=[.tmp 6]
abbrev L1i.n:Nat:=28
def L1x.c (L1m:FuncId):C :=(.seq (.reg [Au 2 (.box (.t 0)),Au 3 (.box (.t 1)),Ac 4 0]) (.seq (.blk 0 (.seq (.reg [Ag 6 3 2,Ag 7 3 3,Au 8 (.call L1m [.t 6,.t 7]),Am 5 8]) (.ite (.t 5) (.seq (.reg [Ac 4 (-1)]) .ret) (.seq (.reg [Ag 10 3 3,Ag 11 3 2,Au 12 (.call L1m [.t 10,.t 11]),Am 9 12]) (.ite (.t 9) (.seq (.reg [Ac 4 1]) .ret) .skip))))) (.seq (.reg [Ac 4 0]) .ret)))
def L1x.r:List Rr:=[.tmp 4]
abbrev L1x.n:Nat:=13
def L1m.c:C :=(.seq (.reg [Au 2 (.box (.t 0)),Au 3 (.box (.t 1)),Ab 4 false]) (.seq (.seq (.reg [Af 5 0 2,Al 6 5,Af 7 0 3,Al 8 7,Aj .neq 9 6 8]) (.ite (.t 9) (.seq (.reg [Af 10 0 2,Al 11 10,Af 12 0 3,Al 13 12,Aj .lss 14 11 13,Am 4 14]) .ret) .skip)) (.seq (.seq (.reg [Af 15 1 2,Al 16 15,Af 17 1 3,Al 18 17,Aj .neq 19 16 18]) (.ite (.t 19) (.seq (.reg [Af 20 1 2,Al 21 20,Af 22 1 3,Al 23 22,Aj .lss 24 21 23,Am 4 24]) .ret) .skip)) (.seq (.reg [Af 25 2 2,Al 26 25,Af 27 2 3,Al 28 27,Aj .lss 29 26 28,Am 4 29]) .ret))))
def L1m.r:List Rr:=[.tmp 4]
abbrev L1m.n:Nat:=30
def L1u.c:C :=(.seq (.reg [Au 2 (.box (.t 0)),Au 3 (.box (.t 1)),Ab 4 false]) (.seq (.seq (.reg [Af 5 0 2,Al 6 5,Af 7 0 3,Al 8 7,Aj .neq 9 6 8]) (.ite (.t 9) (.seq (.reg [Af 10 0 2,Al 11 10,Af 12 0 3,Al 13 12,Aj .lss 14 11 13,Am 4 14]) .ret) .skip)) (.seq (.seq (.reg [Af 15 1 2,Al 16 15,Af 17 1 3,Al 18 17,Aj .neq 19 16 18]) (.ite (.t 19) (.seq (.reg [Af 20 1 2,Al 21 20,Af 22 1 3,Al 23 22,Aj .lss 24 21 23,Am 4 24]) .ret) .skip)) (.seq (.reg [Af 25 2 2,Al 26 25,Af 27 2 3,Al 28 27,Aj .lss 29 26 28,Am 4 29]) .ret))))
def L1u.r:List Rr:=[.tmp 4]
abbrev L1u.n:Nat:=30
def L1n.c (L1o:FuncId):C :=(.seq (.reg [Au 2 (.box (.t 0)),Au 3 (.box (.t 1)),Au 4 (.alloc [(.i .i64 0),(.i .i64 0),(.i .i64 0)])]) (.seq (.seq (.reg [Ag 5 3 2,Au 6 (.call L1o [.t 5]),Au 7 (.un .not (.t 6)),Am 8 7,Aw 9 8 (.ld (some 3) (.t 3)),Aw 10 8 (.call L1o [.t 9]),Aw 11 8 (.un .not (.t 10)),Ao 12 8 11]) (.ite (.t 12) (.seq (.reg [Au 13 (.build [(.i .i64 0),(.i .i64 0),(.i .i64 0)] []),As 3 4 13]) .ret) .skip)) (.seq (.reg [Af 14 0 2,Al 15 14,Af 16 0 3,Al 17 16,Aj .sub 18 15 17,Af 19 1 2,Al 20 19,Af 21 1 3,Al 22 21,Aj .sub 23 20 22,Af 24 2 2,Al 25 24,Af 26 2 3,Al 27 26,Aj .sub 28 25 27,Au 29 (.build [(.i .i64 0),(.i .i64 0),(.i .i64 0)] [(0,1,(.t 18)),(1,1,(.t 23)),(2,1,(.t 28))]),
 As 3 4 29]) .ret)))
def L1n.r:List Rr:=[.cell 4 (some 3)]
abbrev L1n.n:Nat:=30
end Go.Abs
namespace Go.Abs
open Go.Sort
instance:Inhabited V3:=⟨⟨0,0,0⟩⟩
def V3.ints (v:V3):List Int:=[v.x,v.y,v.z]
def Ql4 (P:Program) (f:FuncId):Prop:=∀a b:V3,CallIs P f [a.enc,b.enc] (.b (decide (V3.lt a b)))
def Qbp (a b:V3):Int:=if V3.lt a b then -1 else if V3.lt b a then 1 else 0
def Qlk (P:Program) (f:FuncId):Prop:=∀a b:V3,CallIs P f [a.enc,b.enc] (.i .i64 (Qbp a b))
def Q7h (P:Program) (f:FuncId):Prop:=∀a b:T3,CallIs P f [a.enc,b.enc] (.b (decide (T3.lt a b)))
def Q7b (P:Program) (f:FuncId):Prop:=∀t:T3,CallIs P f [t.enc] t.turned.enc
def Qko (P:Program) (f:FuncId):Prop:=∀a b:V3,a.valid=true->b.valid=true->CallIs P f [a.enc,b.enc] (a.sub b).enc
def Qdp (P:Program) (f:FuncId):Prop:=∀a b:V3,a.within 131072=true->b.within 131072=true->CallIs P f [a.enc,b.enc] (a.crs b).enc
def Q7c (P:Program) (f:FuncId):Prop:=∀a:V3,CallIs P f [a.enc] (.b (a.within 131072))
def Qdq (P:Program) (f:FuncId):Prop:=∀a b c:V3,CallIs P f [a.enc,b.enc,c.enc] (.b (Kk a b c))
theorem ltV (a b:V3):ltC Qbp a b=decide (V3.lt a b):=by
 unfold ltC Qbp
 by_cases h1:V3.lt a b
 ·simp[h1]
 ·by_cases h2:V3.lt b a<;>simp[h1,h2]
theorem swoV:SWO (ltC Qbp) where
 irrefl x:=by rw[ltV];simp[V3.ltO.irr]
 trans x y z h1 h2:=by
  rw[ltV,decide_eq_true_eq]at *
  exact V3.ltO.tr h1 h2
 ntrans x y z h1 h2:=by
  rw[ltV,decide_eq_false_iff_not]at *
  unfold V3.lt at *;omega
section
variable {P:Program} (hm:P.follows .mixedOrders=true)
include hm
theorem Q7r {f:FuncId} (hf:Qb P f L1m.c L1m.r L1m.n):Ql4 P f:=by
 intro a b
 refine PureC.is (Q9 hm hf (qh rfl) ?_) rfl
 unfold L1m.c
 by_cases h1:a.x=b.x
 ·by_cases h2:a.y=b.y
  ·simp[go_sem,V3.enc,vcs,h1,h2,L1m.r,V3.lt]
  ·simp[go_sem,V3.enc,vcs,h1,h2,L1m.r,V3.lt]
 ·simp[go_sem,V3.enc,vcs,h1,L1m.r,V3.lt]
theorem Q17 {f:FuncId} (hf:Qb P f L1u.c L1u.r L1u.n):Q7h P f:=by
 intro a b
 refine PureC.is (Q9 hm hf (qh rfl) ?_) rfl
 unfold L1u.c
 by_cases h1:a.a=b.a
 ·by_cases h2:a.b=b.b
  ·simp[go_sem,T3.enc,tcs,h1,h2,L1u.r,T3.lt]
  ·simp[go_sem,T3.enc,tcs,h1,h2,L1u.r,T3.lt]
 ·simp[go_sem,T3.enc,tcs,h1,L1u.r,T3.lt]
theorem Q15 {f fl:FuncId} (hf:Qb P f (L1x.c fl) L1x.r L1x.n) (hl:Ql4 P fl):Qlk P f:=by
 intro a b
 refine PureC.is (Q9 hm hf (qh rfl) ?_) rfl
 unfold L1x.c
 simp[go_sem,V3.enc,vcs]
 refine Q6 (hl a b) ?_
 by_cases h1:V3.lt a b
 ·simp[go_sem,h1,L1x.r,Qbp]
 ·simp[go_sem,h1]
  refine Q6 (hl b a) ?_
  by_cases h2:V3.lt b a<;>simp[go_sem,h1,h2,L1x.r,Qbp]
theorem Q16 {f fb:FuncId} (hf:Qb P f (L1v.c fb) L1v.r L1v.n) (hb:Q7h P fb):Q7b P f:=by
 intro t
 refine PureC.is (Q9 hm hf (qh rfl) ?_) rfl
 unfold L1v.c
 have w1:IntKind.i64.wrap 1=1:=rfl
 have w2:IntKind.i64.wrap 2=2:=rfl
 simp[go_sem,T3.enc,tcs]
 refine Ql (α:=Nat) (λk=>k<=2)
  (λk=>⟨[(1,.p 0 1 0 0),(2,.p 1 1 0 0),(3,.p 2 1 0 0),(5,.i .i64 k)],[.arr 1 3 [(if k=0 then t else if k=1 then t.rot else t.rot.rot).cs],.arr 1 3 [[.i .i64 0,.i .i64 0,.i .i64 0]],.arr 1 3 [(if k=0 then t else if k=1 then T3.least t t.rot else t.turned).cs]]⟩)
  (λk=>2-k) 0 (by omega) ?_ ?_
 ·simp[go_sem,tcs]
 ·intro k hk
  have:k=0∨k=1∨k=2:=by omega
  rcases this with rfl | rfl | rfl
  ·simp[go_sem,tcs,w1]
   refine Q6 (hb t.rot t) ?_
   by_cases h:T3.lt t.rot t
   ·have hl:T3.least t t.rot=t.rot:=by simp only[T3.least,h,if_true]
    simp[go_sem,h,w1]
    exact⟨1,by omega,by omega,rfl,by simp[T3.rot],by rw[hl];simp[T3.rot]⟩
   ·have hl:T3.least t t.rot=t:=by simp only[T3.least,h,if_false]
    simp[go_sem,h,w1]
    exact⟨1,by omega,by omega,rfl,by simp[T3.rot],by rw[hl];simp⟩
  ·simp[go_sem,tcs,w2]
   refine Q6 (hb t.rot.rot (T3.least t t.rot)) ?_
   by_cases h:T3.lt t.rot.rot (T3.least t t.rot)
   ·have hl:t.turned=t.rot.rot:=by unfold T3.turned;rw[T3.least,if_pos h]
    simp[go_sem,h,w2]
    exact⟨2,by omega,by omega,rfl,by simp[T3.rot],by rw[hl];simp[T3.rot]⟩
   ·have hl:t.turned=T3.least t t.rot:=by unfold T3.turned;rw[T3.least,if_neg h]
    simp[go_sem,h,w2]
    exact⟨2,by omega,by omega,rfl,by simp[T3.rot],by rw[hl];simp⟩
  ·simp[go_sem,tcs,L1v.r]
theorem Qa1 {f fv:FuncId} (hf:Qb P f (L1n.c fv) L1n.r L1n.n) (hv:Kl P fv):Qko P f:=by
 intro a b h1 h2
 have g1:=V3.valid_iff.1 h1
 have g2:=V3.valid_iff.1 h2
 refine PureC.is (Q9 hm hf (qh rfl) ?_) rfl
 unfold L1n.c
 simp[go_sem,V3.enc,vcs]
 refine Q6 (hv a) ?_
 simp[go_sem,h1]
 refine Q6 (hv b) ?_
 simp (disch:=omega) [go_sem,h2,Q3,L1n.r,V3.sub]
theorem Q3n {f fw:FuncId} (hf:Qb P f (L1p.c fw) L1p.r L1p.n) (hw:X7 P fw):Q7c P f:=by
 intro a
 refine PureC.is (Q9 hm hf (qh rfl) ?_) rfl
 unfold L1p.c
 simp[go_sem,V3.enc,vcs]
 refine Q6 ((hw a 131072 (by omega) (by omega)).is rfl) ?_
 simp[go_sem,L1p.r]
theorem Q3o {f fv:FuncId} (hf:Qb P f (L1j.c fv) L1j.r L1j.n) (hv:Q7c P fv):Qdp P f:=by
 intro a b h1 h2
 have g1:(-131072<=a.x/\a.x<=131072/\-131072<=a.y/\a.y<=131072/\-131072<=a.z/\a.z<=131072):=by simpa[V3.within,and_assoc]using h1
 have g2:(-131072<=b.x/\b.x<=131072/\-131072<=b.y/\b.y<=131072/\-131072<=b.z/\b.z<=131072):=by simpa[V3.within,and_assoc]using h2
 have m1:=Qf0 (x:=a.y) (y:=b.z) (A:=131072) (B:=131072) (by omega) (by omega) (by omega) (by omega)
 have m2:=Qf0 (x:=a.z) (y:=b.y) (A:=131072) (B:=131072) (by omega) (by omega) (by omega) (by omega)
 have m3:=Qf0 (x:=a.z) (y:=b.x) (A:=131072) (B:=131072) (by omega) (by omega) (by omega) (by omega)
 have m4:=Qf0 (x:=a.x) (y:=b.z) (A:=131072) (B:=131072) (by omega) (by omega) (by omega) (by omega)
 have m5:=Qf0 (x:=a.x) (y:=b.y) (A:=131072) (B:=131072) (by omega) (by omega) (by omega) (by omega)
 have m6:=Qf0 (x:=a.y) (y:=b.x) (A:=131072) (B:=131072) (by omega) (by omega) (by omega) (by omega)
 refine PureC.is (Q9 hm hf (qh rfl) ?_) rfl
 unfold L1j.c
 simp[go_sem,V3.enc,vcs]
 refine Q6 (hv a) ?_
 simp[go_sem,h1]
 refine Q6 (hv b) ?_
 simp (disch:=omega) [go_sem,h2,Q3,L1j.r,V3.crs]
omit hm in
theorem Q1l {a b:V3} (h1:a.valid=true) (h2:b.valid=true):(a.sub b).within 131072=true:=by
 have g1:=V3.valid_iff.1 h1
 have g2:=V3.valid_iff.1 h2
 simp only[V3.within,Bool.and_eq_true,decide_eq_true_eq]
 simp only[V3.sub]
 omega
omit hm in
theorem v3_zero (v:V3):decide (v=⟨0,0,0⟩)=(v.x == 0 && (v.y == 0 && v.z == 0)):=by
 cases v;rw[Bool.eq_iff_iff];simp[V3.mk.injEq]
theorem Iy {f fv fs fc:FuncId} (hf:Qb P f (L1i.c fv fs fc) L1i.r L1i.n) (hv:Kl P fv) (hs:Qko P fs) (hc:Qdp P fc):Qdq P f:=by
 intro a b c
 refine PureC.is (Q9 hm hf (qh rfl) ?_) rfl
 unfold L1i.c
 simp[go_sem,V3.enc,vcs]
 refine Qp (hv a) ?_
 cases h1:a.valid
 ·simp[go_sem,L1i.r,Kk,h1]
 simp[go_sem]
 refine Qp (hv b) ?_
 cases h2:b.valid
 ·simp[go_sem,L1i.r,Kk,h1,h2]
 simp[go_sem]
 refine Qp (hv c) ?_
 cases h3:c.valid
 ·simp[go_sem,L1i.r,Kk,h1,h2,h3]
 simp[go_sem]
 refine Qp (hs b a h2 h1) ?_
 simp[go_sem]
 refine Qp (hs c a h3 h1) ?_
 simp[go_sem]
 refine Qp (hc _ _ (Q1l h2 h1) (Q1l h3 h1)) ?_
 simp[go_sem,V3.enc,vcs,L1i.r,Kk,h1,h2,h3,v3_zero]
end
end Go.Abs
