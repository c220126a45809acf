/- Part of the library on which the proof stands: an abstract machine, its values and its soundness against the model; or what functions of the program do to such values. -/
import Derived.Test.YtnaehggpjfdenaaGreatGoRevC
set_option linter.unusedVariables false
set_option linter.unusedSimpArgs false
set_option maxHeartbeats 4000000
set_option maxRecDepth 4000
namespace Go.Abs
def L2c.c (L0h:FuncId):C :=(.seq (.reg [Ac 10 0]) (.seq (.reg [Am 14 1,Am 15 0,Aj .sub 16 14 15,Am 17 4,Au 18 (.bin .mul (.c (.i .i64 2)) (.t 17)),Ad 19 18 1,Am 20 2,Au 21 (.bin .mul (.c (.i .i64 2)) (.t 20)),Aj .sub 22 19 21,Aj .mul 23 16 22,Am 24 3,Am 25 2,Aj .sub 26 24 25,Au 27 (.bin .mul (.c (.i .i64 2)) (.t 26)),Au 28 (.call L0h [.t 23,.t 27]),Am 13 28,Ax1 29 0 13,Ax1 30 1 13,Am 11 29,Am 12 30]) (.seq (.reg [Am 31 0,Am 32 11,Aj .add 33 31 32,Am 10 33]) .ret)))
def L2c.r:List Rr:=[.tmp 10]
abbrev L2c.n:Nat:=34
def L2b.c (L37 L2c:FuncId):C :=(.seq (.reg [Au 3 (.box (.t 0)),Au 4 (.box (.t 1)),Au 6 (.alloc [(.i .i64 0),(.i .i64 0)]),Ab 7 false]) (.seq (.seq (.reg [Ag 8 3 3,Au 9 (.call L37 [.t 8]),Au 10 (.un .not (.t 9)),Am 11 10,Aw 12 11 (.ld (some 3) (.t 4)),Aw 13 11 (.call L37 [.t 12]),Aw 14 11 (.un .not (.t 13)),Ao 15 11 14,Am 16 15,Aw 17 16 (.fa 2 (.t 3)),Aw 18 16 (.ld none (.t 17)),Aw 19 16 (.mv (.t 2)),Aw 20 16 (.bin .gtr (.t 18) (.t 19)),Ao 21 16 20,Am 22 21,Aw 23 22 (.mv (.t 2)),Aw 24 22 (.fa 2 (.t 4)),Aw 25 22 (.ld none (.t 24)),Aw 26 22 (.bin .geq (.t 23) (.t 25)),Ao 27 22 26]) (.ite (.t 27) (.seq
 (.reg [Au 28 (.build [(.i .i64 0),(.i .i64 0)] []),As 2 6 28,Ab 7 false]) .ret) .skip)) (.seq (.drw [Af 29 0 3,Al 30 29,Af 31 0 4,Al 32 31,Af 33 2 3,Al 34 33,Af 35 2 4,Al 36 35,Am 37 2,Au 38 (.call L2c [.t 30,.t 32,.t 34,.t 36,.t 37]),Af 39 1 3,Al 40 39,Af 41 1 4,Al 42 41,Af 43 2 3,Al 44 43,Af 45 2 4,Al 46 45,Am 47 2,Au 48 (.call L2c [.t 40,.t 42,.t 44,.t 46,.t 47]),Au 49 (.build [(.i .i64 0),(.i .i64 0)] [(0,1,(.t 38)),(1,1,(.t 48))]),As 2 6 49,Ab 7 true] [[],[],[],[],[],[],[],[],[],[],[9],[9],[9],[9],[9],[9],[9],[9],[],[],[],[],[]]) .ret)))
def L2b.r:List Rr:=[.cell 6 (some 2),.tmp 7]
abbrev L2b.n:Nat:=50
def L2d.c (L2b:FuncId):C :=(.seq (.reg [Au 2 (.box (.t 0)),Au 4 (.alloc [(.i .i64 0),(.i .i64 0),(.i .i64 0),(.i .i64 0)]),Ab 5 false]) (.seq (.reg [Au 6 (.alloc [(.i .i64 0),(.i .i64 0),(.i .i64 0),(.i .i64 0)])]) (.seq (.reg [Ab 7 false]) (.seq (.seq (.reg [Ag 15 9 2,Ac 16 0]) (.blk 0 (.loop (.seq (.reg [Ak .lss 17 16 3]) (.seq (.ite (.t 17) .skip (.exit 0)) (.seq (.blk 1 (.seq (.reg [Am 18 16,Au 19 (.ix 3 3 (some 3) (.t 15) (.t 16)),Au 9 (.alloc [(.i .i64 0),(.i .i64 0),(.i .i64 0)]),Am 8 18,As 3 9 19]) (.seq (.reg [Am 20 8,Ad 21 20 1,Ak .rem 22 21 3,Au 23 (.iaa 3 3 (.t 2) (.t 22)),Ag 24 3 23,
 Au 10 (.alloc [(.i .i64 0),(.i .i64 0),(.i .i64 0)]),As 3 10 24]) (.seq (.seq (.reg [Ag 26 3 9,Ag 27 3 10,Am 28 1,Au 29 (.call L2b [.t 26,.t 27,.t 28]),Am 25 29,Ax1 30 0 25,Ax1 31 1 25,Au 11 (.alloc [(.i .i64 0),(.i .i64 0)]),As 2 11 30,Am 12 31]) (.seq (.reg [Am 32 12]) (.ite (.t 32) (.reg [Ag 33 2 11,Af 34 2 6,As 2 34 33,Ab 7 true]) .skip))) (.seq (.reg [Ag 36 3 10,Ag 37 3 9,Am 38 1,Au 39 (.call L2b [.t 36,.t 37,.t 38]),Am 35 39,Ax1 40 0 35,Ax1 41 1 35,Au 13 (.alloc [(.i .i64 0),(.i .i64 0)]),As 2 13 40,Am 14 41]) (.seq (.reg [Am 42 14]) (.ite (.t 42) (.reg [Ag 43 2 13,Af 44 0 6,As 2 44 43])
 .skip))))))) (.reg [Ad 45 16 1,Am 16 45]))))))) (.seq (.reg [Ag 46 4 6,Am 47 7,As 4 4 46,Am 5 47]) .ret)))))
def L2d.r:List Rr:=[.cell 4 (some 4),.tmp 5]
abbrev L2d.n:Nat:=48
def L2a.c (L0d L0e L2d:FuncId):C :=(.seq (.reg [Au 2 (.box (.t 0)),Az 4,Ac 5 0]) (.seq (.seq (.reg [Ag 15 2 2,Au 16 (.call L0d [.t 15]),Am 6 16]) (.seq (.reg [Am 17 6,Ak .neq 18 17 0]) (.ite (.t 18) (.seq (.reg [Am 19 6,Az 4,Am 5 19]) .ret) .skip))) (.seq (.seq (.reg [Am 20 1,Ak .lss 21 20 (-65536),Am 22 21,Aw 23 22 (.mv (.t 1)),Aw 24 22 (.bin .gtr (.t 23) (.c (.i .i64 65536))),Ao 25 22 24]) (.ite (.t 25) (.seq (.reg [Az 4,Ac 5 8]) .ret) .skip)) (.seq (.reg [Az 7]) (.seq (.seq (.reg [Af 26 1 2,Al 27 26,An 28 0 27,Ac 29 0]) (.blk 0 (.loop (.seq (.reg [Aj .lss 30 29 28]) (.seq (.ite (.t 30) .skip
 (.exit 0)) (.seq (.blk 1 (.seq (.reg [Am 31 29,Am 8 31]) (.seq (.reg [Ag 33 2 2,Am 34 8,Au 35 (.call L0e [.t 33,.t 34]),Am 32 35,Ax1 36 0 32,Ax1 37 1 32,Ax1 38 2 32,Ax1 39 3 32,Au 9 (.alloc [(.i .i64 0),(.i .i64 0),(.i .i64 0)]),Au 10 (.alloc [(.i .i64 0),(.i .i64 0),(.i .i64 0)]),Au 11 (.alloc [(.i .i64 0),(.i .i64 0),(.i .i64 0)]),As 3 9 36,As 3 10 37,As 3 11 38,Am 12 39]) (.seq (.reg [Ag 41 3 9,Ag 42 3 10,Ag 43 3 11,Au 44 (.build [(.i .i64 0),(.i .i64 0),(.i .i64 0),(.i .i64 0),(.i .i64 0),(.i .i64 0),(.i .i64 0),(.i .i64 0),(.i .i64 0)] [(0,3,(.t 41)),(3,3,(.t 42)),(6,3,(.t 43))]),Am 45 1,
 Au 46 (.call L2d [.t 44,.t 45]),Am 40 46,Ax1 47 0 40,Ax1 48 1 40,Au 13 (.alloc [(.i .i64 0),(.i .i64 0),(.i .i64 0),(.i .i64 0)]),As 4 13 47,Am 14 48]) (.seq (.reg [Am 49 14]) (.ite (.t 49) (.reg [Am 50 7,Ag 51 4 13,Au 52 (.bsi 4 1 [(.i .i64 0),(.i .i64 0),(.i .i64 0),(.i .i64 0)] [(0,(.t 51))]),Au 53 (.app 4 32 (.t 50) (.t 52)),Am 7 53]) .skip)))))) (.reg [Ad 54 29 1,Am 29 54]))))))) (.seq (.reg [Am 55 7,Am 4 55,Ac 5 0]) .ret))))))
def L2a.r:List Rr:=[.tmp 4,.tmp 5]
abbrev L2a.n:Nat:=56
def L14.c:C :=(.seq (.reg [Ac 4 0]) (.seq (.reg [Am 8 0,Au 9 (.bin .mul (.c (.i .i64 2)) (.t 8)),Am 10 1,Aj .add 11 9 10,Am 12 1,Au 13 (.bin .mul (.c (.i .i64 2)) (.t 12)),Am 5 11,Am 6 13]) (.seq (.reg [Am 14 5,Am 15 6,Aj .quo 16 14 15,Am 7 16]) (.seq (.seq (.reg [Am 17 5,Am 18 6,Aj .rem 19 17 18,Ak .lss 20 19 0]) (.ite (.t 20) (.reg [Am 21 7,Ak .sub 22 21 1,Am 7 22]) .skip)) (.seq (.reg [Am 23 7,Am 4 23]) .ret)))))
def L14.r:List Rr:=[.tmp 4]
abbrev L14.n:Nat:=24
def L13.c (L0w L14:FuncId):C :=(.seq (.reg [Au 3 (.box (.t 0)),Au 4 (.box (.t 1)),Au 6 (.alloc [(.i .i64 0),(.i .i64 0)]),Ab 7 false]) (.seq (.seq (.reg [Ag 10 3 3,Au 11 (.call L0w [.t 10]),Au 12 (.un .not (.t 11)),Am 13 12,Aw 14 13 (.ld (some 3) (.t 4)),Aw 15 13 (.call L0w [.t 14]),Aw 16 13 (.un .not (.t 15)),Ao 17 13 16,Am 18 17,Aw 19 18 (.fa 2 (.t 3)),Aw 20 18 (.ld none (.t 19)),Aw 21 18 (.mv (.t 2)),Aw 22 18 (.bin .gtr (.t 20) (.t 21)),Ao 23 18 22,Am 24 23,Aw 25 24 (.mv (.t 2)),Aw 26 24 (.fa 2 (.t 4)),Aw 27 24 (.ld none (.t 26)),Aw 28 24 (.bin .geq (.t 25) (.t 27)),Ao 29 24 28]) (.ite (.t 29)
 (.seq (.reg [Au 30 (.build [(.i .i64 0),(.i .i64 0)] []),As 2 6 30,Ab 7 false]) .ret) .skip)) (.seq (.drw [Am 31 2,Au 32 (.bin .mul (.c (.i .i64 2)) (.t 31)),Ad 33 32 1,Af 34 2 3,Al 35 34,Au 36 (.bin .mul (.c (.i .i64 2)) (.t 35)),Aj .sub 37 33 36,Af 38 2 4,Al 39 38,Af 40 2 3,Al 41 40,Aj .sub 42 39 41,Au 43 (.bin .mul (.c (.i .i64 2)) (.t 42)),Am 8 37,Am 9 43] []) (.seq (.drw [Af 44 0 3,Al 45 44,Af 46 0 4,Al 47 46,Af 48 0 3,Al 49 48,Aj .sub 50 47 49,Am 51 8,Aj .mul 52 50 51,Am 53 9,Au 54 (.call L14 [.t 52,.t 53]),Aj .add 55 45 54,Af 56 1 3,Al 57 56,Af 58 1 4,Al 59 58,Af 60 1 3,Al 61 60,Aj .sub 62 59 61,
 Am 63 8,Aj .mul 64 62 63,Am 65 9,Au 66 (.call L14 [.t 64,.t 65]),Aj .add 67 57 66,Au 68 (.build [(.i .i64 0),(.i .i64 0)] [(0,1,(.t 55)),(1,1,(.t 67))]),As 2 6 68,Ab 7 true] [[],[],[],[],[],[],[],[],[],[],[0,1],[],[10],[10],[10],[10],[10],[10],[],[],[],[],[0,1,12,13],[],[],[],[]]) .ret))))
def L13.r:List Rr:=[.cell 6 (some 2),.tmp 7]
abbrev L13.n:Nat:=69
def L12.c (L11 L13:FuncId):C :=(.seq (.reg [Au 2 (.box (.t 0)),Az 4,Ac 5 0]) (.seq (.seq (.reg [Ag 17 2 2,Au 18 (.call L11 [.t 17]),Am 6 18]) (.seq (.reg [Am 19 6,Ak .neq 20 19 0]) (.ite (.t 20) (.seq (.reg [Am 21 6,Az 4,Am 5 21]) .ret) .skip))) (.seq (.seq (.reg [Am 22 1,Ak .lss 23 22 (-65536),Am 24 23,Aw 25 24 (.mv (.t 1)),Aw 26 24 (.bin .gtr (.t 25) (.c (.i .i64 65536))),Ao 27 24 26]) (.ite (.t 27) (.seq (.reg [Az 4,Ac 5 8]) .ret) .skip)) (.seq (.reg [Az 7]) (.seq (.seq (.reg [Ac 8 0]) (.blk 0 (.loop (.seq (.seq (.reg [Am 28 8,Af 29 1 2,Al 30 29,An 31 0 30,Aj .lss 32 28 31]) (.ite (.t 32) .skip
 (.exit 0))) (.seq (.blk 1 (.seq (.drw [Af 35 0 2,Al 36 35,Af 37 1 2,Al 38 37,Am 39 8,Ai 40 3 38 39,Af 41 0 40,Al 42 41,Ai 43 3 36 42,Ag 44 3 43,Af 45 0 2,Al 46 45,Af 47 1 2,Al 48 47,Am 49 8,Ai 50 3 48 49,Af 51 1 50,Al 52 51,Ai 53 3 46 52,Ag 54 3 53,Af 55 0 2,Al 56 55,Af 57 1 2,Al 58 57,Am 59 8,Ai 60 3 58 59,Af 61 2 60,Al 62 61,Ai 63 3 56 62,Ag 64 3 63,Au 65 (.bso 3 3 [(.i .i64 0),(.i .i64 0),(.i .i64 0)] [(0,(.t 44)),(1,(.t 54)),(2,(.t 64))]),Am 9 65] []) (.seq (.reg [Au 10 (.alloc [(.i .i64 0),(.i .i64 0),(.i .i64 0),(.i .i64 0)])]) (.seq (.reg [Ab 11 false]) (.seq (.seq (.reg [Ac 12 0]) (.blk 2
 (.loop (.seq (.seq (.reg [Am 66 12,Ak .lss 67 66 3]) (.ite (.t 67) .skip (.exit 2))) (.seq (.blk 3 (.seq (.seq (.drw [Am 71 9,Am 72 12,Ai 73 3 71 72,Ag 74 3 73,Am 75 9,Am 76 12,Ad 77 76 1,Ak .rem 78 77 3,Ai 79 3 75 78,Ag 80 3 79,Am 81 1,Au 82 (.call L13 [.t 74,.t 80,.t 81]),Am 70 82,Ax1 83 0 70,Ax1 84 1 70,Au 13 (.alloc [(.i .i64 0),(.i .i64 0)]),As 2 13 83,Am 14 84] []) (.seq (.reg [Am 85 14]) (.ite (.t 85) (.seq (.reg [Ag 86 2 13,Af 87 2 10,As 2 87 86]) (.reg [Ab 11 true])) .skip))) (.seq (.drw [Am 89 9,Am 90 12,Ad 91 90 1,Ak .rem 92 91 3,Ai 93 3 89 92,Ag 94 3 93,Am 95 9,Am 96 12,Ai 97 3 95 96,
 Ag 98 3 97,Am 99 1,Au 100 (.call L13 [.t 94,.t 98,.t 99]),Am 88 100,Ax1 101 0 88,Ax1 102 1 88,Au 15 (.alloc [(.i .i64 0),(.i .i64 0)]),As 2 15 101,Am 16 102] []) (.seq (.reg [Am 103 16]) (.ite (.t 103) (.reg [Ag 104 2 15,Af 105 0 10,As 2 105 104]) .skip))))) (.reg [Am 68 12,Ad 69 68 1,Am 12 69])))))) (.seq (.reg [Am 106 11]) (.ite (.t 106) (.reg [Am 107 7,Ag 108 4 10,Au 109 (.bsi 4 1 [(.i .i64 0),(.i .i64 0),(.i .i64 0),(.i .i64 0)] [(0,(.t 108))]),Au 110 (.app 4 32 (.t 107) (.t 109)),Am 7 110]) .skip))))))) (.reg [Am 33 8,Ad 34 33 1,Am 8 34])))))) (.seq (.reg [Am 111 7,Am 4 111,Ac 5 0]) .ret))))))
def L12.r:List Rr:=[.tmp 4,.tmp 5]
abbrev L12.n:Nat:=112
theorem Qbi {x y A B:Int} (h1:-A<=x) (h2:x<=A) (h3:-B<=y) (h4:y<=B):-(A*B)<=x*y/\x*y<=A*B:=by
 have hA:0<=A:=by omega
 have hB:0<=B:=by omega
 have h5:=Nat.mul_le_mul (show x.natAbs<=A.natAbs by omega) (show y.natAbs<=B.natAbs by omega)
 rw[<- Int.natAbs_mul,<- Int.natAbs_mul]at h5
 have h6:0<=A*B:=Int.mul_nonneg hA hB
 omega
def Q72 (c0 c1 z0 z1 z:Int):Int:=c0+rnd ((c1-c0)*(2*z+1-2*z0)) (2*(z1-z0))
def Quv (P:Program) (f:FuncId):Prop:=∀c0 c1 z0 z1 z:Int,-65536<=c0->c0<=65536->-65536<=c1->c1<=65536->-65536<=z0->z1<=65536->z0<=z->z<z1 ->
 CallIs P f [.i .i64 c0,.i .i64 c1,.i .i64 z0,.i .i64 z1,.i .i64 z] (.i .i64 (Q72 c0 c1 z0 z1 z))
def point (a b:V3) (z:Int):Option (Int × Int) :=
 if a.valid=true/\b.valid=true/\a.z<=z/\z<b.z then some (Q72 a.x b.x a.z b.z z,Q72 a.y b.y a.z b.z z) else none
def ptR:Option (Int × Int)->V
 | none=>.t [.a [.i .i64 0,.i .i64 0],.b false]
 | some p=>.t [.a [.i .i64 p.1,.i .i64 p.2],.b true]
def Q26 (P:Program) (f:FuncId):Prop:=∀(a b:V3) (z:Int),CallIs P f [a.enc,b.enc,.i .i64 z] (ptR (point a b z))
theorem Q4c {a b:Int} (h1:-34359738368<=a) (h2:a<=34359738368) (h3:0<b):-34359738369<=rnd a b/\rnd a b<=34359738369:=by
 unfold rnd
 have h4:=Int.mul_ediv_add_emod (2*a+b) (2*b)
 have h5:=Int.emod_nonneg (2*a+b) (show 2*b≠0 by omega)
 have h6:=Int.emod_lt_of_pos (2*a+b) (show 0<2*b by omega)
 generalize (2*a+b) / (2*b)=q at h4 ⊢
 generalize (2*a+b) % (2*b)=r at *
 have h7:2*b*q=2*(b*q):=Int.mul_assoc 2 b q
 constructor
 ·refine jb λhh=>?_
  have:=jl (show q<=-34359738370 by omega) (show 0<=b by omega)
  omega
 ·refine jb λhh=>?_
  have:=jl (show 34359738370<=q by omega) (show 0<=b by omega)
  omega
theorem Q58 {a b:Int} (hb:0<b):(2*a+b).tdiv (2*b)-(if (2*a+b).tmod (2*b)<0 then 1 else 0)=rnd a b:=by
 unfold rnd
 have h1:=Int.mul_tdiv_add_tmod (2*a+b) (2*b)
 have h2:=Int.tmod_lt_of_pos (2*a+b) (show 0<2*b by omega)
 have h3:-(2*b)<(2*a+b).tmod (2*b):=by
  have h8:((2*a+b).tmod (2*b)).natAbs=(2*a+b).natAbs % (2*b).natAbs:=Int.natAbs_tmod _ _
  have:=Nat.mod_lt (2*a+b).natAbs (show 0<(2*b).natAbs by omega)
  omega
 generalize (2*a+b).tdiv (2*b)=q at *
 generalize (2*a+b).tmod (2*b)=r at *
 split
 ·refine ((Int.ediv_emod_unique (show 0<2*b by omega) (q:=q-1) (r:=2*b+r)).2 ⟨?_,by omega,by omega⟩).1.symm
  rw[Int.mul_sub]
  omega
 ·rw[Int.sub_zero]
  refine ((Int.ediv_emod_unique (show 0<2*b by omega) (q:=q) (r:=r)).2 ⟨?_,by omega,by omega⟩).1.symm
  omega
section
variable {P:Program} (hm:P.follows .mixedOrders=true)
include hm
theorem Q0n {f fr:FuncId} (hf:Q9 P f (L2c.c fr) L2c.r L2c.n) (hr:Qiq P fr):Quv P f:=by
 intro c0 c1 z0 z1 z h1 h2 h3 h4 h5 h6 h7 h8
 refine PureC.is (Q6 hm hf (qh rfl) ?_) rfl
 unfold L2c.c
 have hp:=Qbi (x:=c1-c0) (y:=2*z+1-2*z0) (A:=131072) (B:=262144) (by omega) (by omega) (by omega) (by omega)
 have hb:=Q4c (a:=(c1-c0)*(2*z+1-2*z0)) (b:=2*(z1-z0)) (by omega) (by omega) (by omega)
 simp (disch:=omega) [go_sem,Q0]
 refine Q4 (hr _ _ (by omega) (by omega) (by omega) (by omega)) ?_
 simp (disch:=omega) [go_sem,Q0,L2c.r,Q72]
theorem Q0o {f fv fc:FuncId} (hf:Q9 P f (L2b.c fv fc) L2b.r L2b.n) (hv:K6 P fv) (hc:Quv P fc):Q26 P f:=by
 intro a b z
 refine PureC.is (Q6 hm hf (qh rfl) ?_) rfl
 unfold L2b.c
 simp[go_sem,V3.enc,vcs]
 refine Q4 (hv a) ?_
 simp +contextual -implicitDefEqProofs [go_sem]
 refine Qul (r:=.b b.valid) (λhh=>?_) ?_
 ·have hh':a.valid=true:=by simpa using hh
  simp[go_sem,hh']
  exact hv b
 by_cases h:a.valid=true/\b.valid=true/\a.z<=z/\z<b.z
 ·obtain⟨h1,h2,h3,h4⟩:=h
  have g1:=V3.valid_iff.1 h1
  have g2:=V3.valid_iff.1 h2
  simp[go_sem,h1,h2,show ¬ z<a.z by omega,show ¬ b.z<=z by omega]
  refine Qg (hc _ _ _ _ _ (by omega) (by omega) (by omega) (by omega) (by omega) (by omega) (by omega) (by omega)) ?_
  simp[go_sem]
  refine Qg (hc _ _ _ _ _ (by omega) (by omega) (by omega) (by omega) (by omega) (by omega) (by omega) (by omega)) ?_
  simp[go_sem,L2b.r,point,h1,h2,h3,h4,ptR]
 ·have hn:point a b z=none:=by simp only[point,h,if_false]
  rw[hn]
  cases h1:a.valid
  ·simp[go_sem,L2b.r,ptR]
  ·cases h2:b.valid
   ·simp[go_sem,L2b.r,ptR]
   ·simp +contextual -implicitDefEqProofs [go_sem,L2b.r,ptR]
    exact λh3 h4=>absurd ⟨h1,h2,h3,h4⟩ h
def Qg2 (P:Program) (f:FuncId):Prop:=∀a b:Int,-34359738368<=a->a<=34359738368->0<b->b<=1048576->CallIs P f [.i .i64 a,.i .i64 b] (.i .i64 (rnd a b))
theorem Q0y {f:FuncId} (hf:Q9 P f L14.c L14.r L14.n):Qg2 P f:=by
 intro a b h1 h2 h3 h4
 refine PureC.is (Q6 hm hf (qh rfl) ?_) rfl
 unfold L14.c
 have hq:-68719476736<=(2*a+b).tdiv (2*b)-1/\(2*a+b).tdiv (2*b)<=68720525312:=by
  have:=Int.natAbs_tdiv_le_natAbs (2*a+b) (2*b)
  constructor
  ·have h5:=Q4c h1 h2 h3
   have h6:=Q58 (a:=a) h3
   split at h6<;>omega
  ·omega
 rw[<- Q58 h3]
 have hz:¬ 2*b=0:=by omega
 simp (disch:=omega) [go_sem,Q0,hz,L14.r]
 intro h
 rw[if_neg (by omega),Int.sub_zero]
theorem Q5e {f fv fc:FuncId} (hf:Q9 P f (L13.c fv fc) L13.r L13.n) (hv:K6 P fv) (hc:Qg2 P fc):Q26 P f:=by
 intro a b z
 refine PureC.is (Q6 hm hf (qh rfl) ?_) rfl
 unfold L13.c
 simp[go_sem,V3.enc,vcs]
 refine Q4 (hv a) ?_
 simp +contextual -implicitDefEqProofs [go_sem]
 refine Qul (r:=.b b.valid) (λhh=>?_) ?_
 ·have hh':a.valid=true:=by simpa using hh
  simp[go_sem,hh']
  exact hv b
 by_cases h:a.valid=true/\b.valid=true/\a.z<=z/\z<b.z
 ·obtain⟨h1,h2,h3,h4⟩:=h
  have g1:=V3.valid_iff.1 h1
  have g2:=V3.valid_iff.1 h2
  have hp:=Qbi (x:=b.x-a.x) (y:=2*z+1-2*a.z) (A:=131072) (B:=262144) (by omega) (by omega) (by omega) (by omega)
  have hb:=Q4c (a:=(b.x-a.x)*(2*z+1-2*a.z)) (b:=2*(b.z-a.z)) (by omega) (by omega) (by omega)
  have hp':=Qbi (x:=b.y-a.y) (y:=2*z+1-2*a.z) (A:=131072) (B:=262144) (by omega) (by omega) (by omega) (by omega)
  have hb':=Q4c (a:=(b.y-a.y)*(2*z+1-2*a.z)) (b:=2*(b.z-a.z)) (by omega) (by omega) (by omega)
  simp (disch:=omega) [go_sem,h1,h2,show ¬ z<a.z by omega,show ¬ b.z<=z by omega,Q0]
  refine Qg (hc _ _ (by omega) (by omega) (by omega) (by omega)) ?_
  simp (disch:=omega) [go_sem,Q0]
  refine Qg (hc _ _ (by omega) (by omega) (by omega) (by omega)) ?_
  simp (disch:=omega) [go_sem,Q0,L13.r,point,h1,h2,h3,h4,ptR,Q72]
 ·have hn:point a b z=none:=by simp only[point,h,if_false]
  rw[hn]
  cases h1:a.valid
  ·simp[go_sem,L13.r,ptR]
  ·cases h2:b.valid
   ·simp[go_sem,L13.r,ptR]
   ·simp +contextual -implicitDefEqProofs [go_sem,L13.r,ptR]
    exact λh3 h4=>absurd ⟨h1,h2,h3,h4⟩ h
end
structure Sg4 where
 a:Int × Int
 b:Int × Int
 found:Bool
def Sg4.init:Sg4:=⟨(0,0),(0,0),false⟩
def Sg4.step (z:Int) (s:Sg4) (u v:V3):Sg4 :=
 let s1:Sg4:=match point u v z with | some p=>⟨s.a,p,true⟩ | none=>s
 match point v u z with | some p=>⟨p,s1.b,s1.found⟩ | none=>s1
def Sg4.cs (s:Sg4):List V:=[.i .i64 s.a.1,.i .i64 s.a.2,.i .i64 s.b.1,.i .i64 s.b.2]
def Z6 (z:Int) (a b c:V3):Nat->Sg4
 | 0=>.init
 | 1=>Sg4.init.step z a b
 | 2=>(Sg4.init.step z a b).step z b c
 | _=>((Sg4.init.step z a b).step z b c).step z c a
def Q8r (z:Int) (a b c:V3):Sg4:=Z6 z a b c 3
def CutC (P:Program) (f:FuncId):Prop:=∀(a b c:V3) (z:Int),CallIs P f [.a (a.cs++b.cs++c.cs),.i .i64 z] (.t [.a (Q8r z a b c).cs,.b (Q8r z a b c).found])
section
variable {P:Program} (hm:P.follows .mixedOrders=true)
include hm
theorem Q50 {f fp:FuncId} (hf:Q9 P f (L2d.c fp) L2d.r L2d.n) (hp:Q26 P fp):CutC P f:=by
 intro a b c z
 refine PureC.is (Q6 hm hf (qh rfl) ?_) rfl
 unfold L2d.c
 simp[go_sem,vcs]
 refine Qc (α:=Nat) (λk=>k<=3)
  (λk=>⟨[(1,.i .i64 z),(2,.p 0 1 0 0),(4,.p 1 1 0 0),(6,.p 2 1 0 0),(7,.b (Z6 z a b c k).found),(15,.a (a.cs++b.cs++c.cs)),(16,.i .i64 k)],
   [.arr 1 9 [a.cs++b.cs++c.cs],.arr 1 4 [[.i .i64 0,.i .i64 0,.i .i64 0,.i .i64 0]],.arr 1 4 [(Z6 z a b c k).cs]]⟩)
  (λk=>3-k) 0 (Nat.zero_le _) ?_ ?_
 ·simp[go_sem,vcs,Z6,Sg4.init,Sg4.cs]
 ·intro k hk
  obtain rfl | rfl | rfl | rfl:k=0∨k=1∨k=2∨k=3:=by omega
  ·have hs:Z6 z a b c 1=(Z6 z a b c 0).step z a b:=Rfl rfl
   generalize Z6 z a b c 0=s at hs ⊢
   simp (disch:=omega) [go_sem,vcs,Sg4.cs,Q0]
   refine Q4 (hp a b z) ?_
   cases h1:point a b z<;>simp[go_sem,ptR]<;>refine Q4 (hp b a z) ?_<;>cases h2:point b a z<;>simp[go_sem,ptR] <;>
    simp (disch:=omega) [go_sem,Q0]<;>refine⟨1,by omega,by omega,?_⟩<;>rw[hs]<;>simp[go_sem,vcs,Sg4.cs,Sg4.step,h1,h2]
  ·have hs:Z6 z a b c 2=(Z6 z a b c 1).step z b c:=Rfl rfl
   generalize Z6 z a b c 1=s at hs ⊢
   simp (disch:=omega) [go_sem,vcs,Sg4.cs,Q0]
   refine Q4 (hp b c z) ?_
   cases h1:point b c z<;>simp[go_sem,ptR]<;>refine Q4 (hp c b z) ?_<;>cases h2:point c b z<;>simp[go_sem,ptR] <;>
    simp (disch:=omega) [go_sem,Q0]<;>refine⟨2,by omega,by omega,?_⟩<;>rw[hs]<;>simp[go_sem,vcs,Sg4.cs,Sg4.step,h1,h2]
  ·have hs:Z6 z a b c 3=(Z6 z a b c 2).step z c a:=Rfl rfl
   generalize Z6 z a b c 2=s at hs ⊢
   simp (disch:=omega) [go_sem,vcs,Sg4.cs,Q0]
   refine Q4 (hp c a z) ?_
   cases h1:point c a z<;>simp[go_sem,ptR]<;>refine Q4 (hp a c z) ?_<;>cases h2:point a c z<;>simp[go_sem,ptR] <;>
    simp (disch:=omega) [go_sem,Q0]<;>refine⟨3,by omega,by omega,?_⟩<;>rw[hs]<;>simp[go_sem,vcs,Sg4.cs,Sg4.step,h1,h2]
  ·simp[go_sem,vcs,Sg4.cs,L2d.r,Q8r]
end
instance:Inhabited V3:=⟨⟨0,0,0⟩⟩
def Mesh.v (m:Mesh) (i:Int):V3:=m.verts[i.toNat]?.getD ⟨0,0,0⟩
theorem Mesh.v_get {m:Mesh} {i:Int} (h1:i<m.verts.length) (h:i.toNat<m.verts.length):m.verts[i.toNat]=m.v i:=by simp[Mesh.v,h]
def zV3:V:=.a [.i .i64 0,.i .i64 0,.i .i64 0]
def Mesh.corners (m:Mesh) (i:Int):V :=
 if 0<=i/\i<m.tris.length/\m.check=0 then match m.tris[i.toNat]? with
  | some t=>.t [(m.v t.a).enc,(m.v t.b).enc,(m.v t.c).enc,.b true]
  | none=>.any
 else .t [zV3,zV3,zV3,.b false]
def Q0a (P:Program) (f:FuncId):Prop:=∀(m:Mesh) (i:Int),CallIs P f [m.enc,.i .i64 i] (m.corners i)
def apS (t:Nat) (e:List (Nat × V)) (pre:List O) (d sz:Nat) (els:List (List V)):St :=
 if els=[] then ⟨(t,.nil)::e,pre⟩ else ⟨(t,.own (pre.length+d) els.length 0 els.length)::e,pre++List.replicate d .dead++[.arr els.length sz els]⟩
section
variable {P:Program} (hm:P.follows .mixedOrders=true)
include hm
theorem Q3z {f fc:FuncId} (hf:Q9 P f (L0e.c fc) L0e.r L0e.n) (hc:X6 P fc):Q0a P f:=by
 intro m i
 refine PureC.is (Q6 hm hf (qh rfl) ?_) rfl
 unfold L0e.c
 by_cases h:0<=i/\i<m.tris.length
 ·obtain⟨h0,h1⟩:=h
  have hlt:i.toNat<m.tris.length:=by omega
  simp[go_sem,Mesh.enc,Mesh.cs,vsV,tsV,show ¬ i<0 by omega,show ¬ (m.tris.length:Int)<=i by omega]
  refine Q4 (hc m) ?_
  by_cases hz:m.check=0
  ·obtain⟨z1,z2,z3,z4⟩:=Mesh.check_zero.1 hz
   obtain⟨t,hp⟩:∃t,m.tris[i.toNat]?=some t:=⟨_,q9 hlt⟩
   obtain⟨hlt',hp'⟩:=q8.1 hp
   obtain⟨t1,t2,t3,t4,t5,t6⟩:=T3.ok_iff.1 (B7 z4 hp)
   have ga:=Mesh.v_get t2 (by omega)
   have gb:=Mesh.v_get t4 (by omega)
   have gc:=Mesh.v_get t6 (by omega)
   have hr:m.corners i=.t [(m.v t.a).enc,(m.v t.b).enc,(m.v t.c).enc,.b true]:=by
    simp only[Mesh.corners,h0,h1,hz,and_self,if_true,hp]
   rw[hr]
   simp[go_sem,hz,h0,h1,hlt,hp',tcs,vcs,t1,t2,t3,t4,t5,t6,show t.a.toNat<m.verts.length by omega,show t.b.toNat<m.verts.length by omega,show t.c.toNat<m.verts.length by omega,ga,gb,gc,L0e.r,V3.enc]
  ·simp[go_sem,hz,L0e.r,Mesh.corners,zV3]
 ·have:i<0∨(m.tris.length:Int)<=i:=by omega
  have hr:m.corners i=.t [zV3,zV3,zV3,.b false]:=by
   unfold Mesh.corners;rw[if_neg (by omega)]
  rw[hr]
  by_cases h0:i<0
  ·simp[go_sem,Mesh.enc,Mesh.cs,vsV,tsV,h0,L0e.r,zV3]
  ·simp[go_sem,Mesh.enc,Mesh.cs,vsV,tsV,h0,show (m.tris.length:Int)<=i by omega,L0e.r,zV3]
end
end Go.Abs
