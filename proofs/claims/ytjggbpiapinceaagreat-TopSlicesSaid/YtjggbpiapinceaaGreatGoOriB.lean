/- Part of the library on which the proof stands: an abstract machine, its values and its soundness against the model; or what functions of the program do to such values. -/
import Derived.Test.YtjggbpiapinceaaGreatGoRw
import Derived.Test.YtjggbpiapinceaaGreatGoRevC
set_option linter.unusedVariables false
set_option linter.unusedSimpArgs false
set_option maxHeartbeats 4000000
namespace Go.Abs
def L0l.c (L0g L0q:FuncId):C :=(.seq (.reg [Au 1 (.box (.t 0)),Ab 2 false]) (.seq (.reg [Ag 3 2 1,Au 4 (.call L0g [.t 3]),Ak .eql 5 4 0,Am 6 5,Av 7 6 (.fa 1 (.t 1)),Av 8 6 (.ld none (.t 7)),Av 9 6 (.call L0q [.t 8]),Ap 10 6 9,Am 2 10]) .ret))
def L0l.r:List Rr:=[.tmp 2]
abbrev L0l.n:Nat:=11
def L0q.c (L0r:FuncId):C :=(.seq (.reg [Ab 2 false]) (.seq (.reg [Au 8 (.mkm none),Am 3 8]) (.seq (.seq (.reg [Am 9 0,An 10 0 9,Ac 11 0]) (.blk 0 (.loop (.seq (.reg [Aj .lss 12 11 10]) (.seq (.ite (.t 12) .skip (.exit 0)) (.seq (.blk 1 (.seq (.reg [Ai 13 3 9 11,Ag 14 3 13,Au 5 (.alloc [(.i .i64 0),(.i .i64 0),(.i .i64 0)]),As 3 5 14]) (.seq (.reg [Ag 15 3 5,Au 16 (.call L0r [.t 15]),An 17 0 16,Ac 18 0]) (.blk 2 (.loop (.seq (.reg [Aj .lss 19 18 17]) (.seq (.ite (.t 19) .skip (.exit 2)) (.seq (.blk 3 (.seq (.reg [Ai 20 2 16 18,Ag 21 2 20,Au 7 (.alloc [(.i .i64 0),(.i .i64 0)]),As 2 7 21]) (.seq
 (.reg [Am 22 3,Ag 23 2 7,⟨none,none,.eqa [1,1] false (.t 23) (.t 23)⟩,Au 24 (.lk [1,1] (.i .i64 0) false (.t 22) (.t 23)),Ad 25 24 1,Au 26 (.ment [1,1] (.i .i64 0) (.t 22) (.t 23)),Ax1 27 1 26,⟨none,none,.est (.t 22) (.t 27) (.t 25)⟩]) (.seq (.reg [Am 28 3,Ag 29 2 7,Au 30 (.lk [1,1] (.i .i64 0) false (.t 28) (.t 29)),Ak .gtr 31 30 1]) (.ite (.t 31) (.seq (.reg [Ab 2 false]) .ret) .skip))))) (.reg [Ad 32 18 1,Am 18 32]))))))))) (.reg [Ad 33 11 1,Am 11 33]))))))) (.seq (.reg [Ab 2 true]) .ret))))
def L0q.r:List Rr:=[.tmp 2]
abbrev L0q.n:Nat:=34
def L0r.c:C :=(.seq (.reg [Au 1 (.box (.t 0)),Az 2]) (.seq (.reg [Az 3]) (.seq (.seq (.reg [Af 6 0 1,Al 7 6,Af 8 1 1,Al 9 8,Au 10 (.build [(.i .i64 0),(.i .i64 0)] [(0,1,(.t 7)),(1,1,(.t 9))]),Af 11 1 1,Al 12 11,Af 13 2 1,Al 14 13,Au 15 (.build [(.i .i64 0),(.i .i64 0)] [(0,1,(.t 12)),(1,1,(.t 14))]),Af 16 2 1,Al 17 16,Af 18 0 1,Al 19 18,Au 20 (.build [(.i .i64 0),(.i .i64 0)] [(0,1,(.t 17)),(1,1,(.t 19))]),Au 21 (.build [(.i .i64 0),(.i .i64 0),(.i .i64 0),(.i .i64 0),(.i .i64 0),(.i .i64 0)] [(0,2,(.t 10)),(2,2,(.t 15)),(4,2,(.t 20))]),Ac 22 0]) (.blk 0 (.loop (.seq (.reg [Ak .lss 23 22 3]) (.seq
 (.ite (.t 23) .skip (.exit 0)) (.seq (.blk 1 (.seq (.reg [Au 24 (.ix 3 2 (some 2) (.t 21) (.t 22)),Au 5 (.alloc [(.i .i64 0),(.i .i64 0)]),As 2 5 24]) (.seq (.reg [Af 25 0 5,Al 26 25,Af 27 1 5,Al 28 27,Aj .neq 29 26 28]) (.ite (.t 29) (.reg [Am 30 3,Ag 31 2 5,Au 32 (.bsi 2 1 [(.i .i64 0),(.i .i64 0)] [(0,(.t 31))]),Au 33 (.app 2 16 (.t 30) (.t 32)),Am 3 33]) .skip)))) (.reg [Ad 34 22 1,Am 22 34]))))))) (.seq (.reg [Am 35 3,Am 2 35]) .ret))))
def L0r.r:List Rr:=[.tmp 2]
abbrev L0r.n:Nat:=36
def L0m.c (L0g L1t L0r L0p L0n L0q L1u:FuncId):C :=(.seq (.reg [Au 1 (.box (.t 0)),Au 2 (.alloc [.nil,.nil]),Ac 3 0,Ac 4 0]) (.seq (.seq (.reg [Ag 22 2 1,Au 23 (.call L0g [.t 22]),Am 5 23]) (.seq (.reg [Am 24 5,Ak .neq 25 24 0]) (.ite (.t 25) (.seq (.reg [Au 26 (.build [.nil,.nil] []),Am 27 5,As 2 2 26,Ac 3 0,Am 4 27]) .ret) .skip))) (.seq (.reg [Af 28 1 1,Al 29 28,Au 30 (.call L1t [.t 29]),Au 6 (.alloc [.nil]),As 1 6 30]) (.seq (.reg [Au 31 (.mkm none),Am 7 31]) (.seq (.seq (.reg [Al 32 6,An 33 0 32,Ac 34 0]) (.blk 0 (.loop (.seq (.reg [Aj .lss 35 34 33]) (.seq (.ite (.t 35) .skip (.exit 0)) (.seq
 (.blk 1 (.seq (.reg [Am 36 34,Ai 37 3 32 34,Ag 38 3 37,Au 9 (.alloc [(.i .i64 0),(.i .i64 0),(.i .i64 0)]),Am 8 36,As 3 9 38]) (.seq (.reg [Ag 39 3 9,Au 40 (.call L0r [.t 39]),An 41 0 40,Ac 42 0]) (.blk 2 (.loop (.seq (.reg [Aj .lss 43 42 41]) (.seq (.ite (.t 43) .skip (.exit 2)) (.seq (.blk 3 (.seq (.reg [Ai 44 2 40 42,Ag 45 2 44,Au 11 (.alloc [(.i .i64 0),(.i .i64 0)]),As 2 11 45]) (.drw [Am 46 7,Ag 47 2 11,Au 48 (.call L0p [.t 47]),Am 49 7,Ag 50 2 11,Au 51 (.call L0p [.t 50]),Au 52 (.lk [1,1] .nil false (.t 49) (.t 51)),Am 53 8,Au 54 (.bsi 1 1 [(.i .i64 0)] [(0,(.t 53))]),Au 55 (.app 1 8 (.t 52) (.t 54)),
 ⟨none,none,.mup [1,1] (.t 46) (.t 48) (.t 55)⟩] [[],[],[],[],[2],[],[],[],[],[],[]]))) (.reg [Ad 56 42 1,Am 42 56]))))))))) (.reg [Ad 57 34 1,Am 34 57]))))))) (.seq (.reg [Al 58 6,An 59 0 58,Au 60 (.mks 1 1 [(.b false)] (.t 59)),Au 12 (.alloc [.nil]),As 1 12 60]) (.seq (.reg [Au 13 (.alloc [(.i .i64 0)]),⟨none,none,.st 1 (.t 13) (.c (.i .i64 0))⟩]) (.seq (.reg [Au 14 (.alloc [.nil])]) (.seq (.reg [Au 61 (.mkf L0n [.t 12,.t 6,.t 13,.t 14]),Am 15 61]) (.seq (.seq (.reg [Al 62 6,An 63 0 62,Ac 64 0]) (.blk 4 (.loop (.seq (.reg [Aj .lss 65 64 63]) (.seq (.ite (.t 65) .skip (.exit 4)) (.seq (.blk 5
 (.seq (.reg [Am 66 64,Am 16 66]) (.seq (.reg [Am 67 15,Am 68 16,Au 69 (.build [(.i .i64 0),(.i .i64 0)] [(0,1,(.c (.i .i64 (-1)))),(1,1,(.c (.i .i64 (-1))))]),Au 70 (.callv (.t 67) [.t 68,.t 69])]) (.blk 6 (.loop (.seq (.seq (.reg [Al 71 14,An 72 0 71,Ak .gtr 73 72 0]) (.ite (.t 73) .skip (.exit 6))) (.blk 7 (.seq (.reg [Al 74 14,Au 75 (.ia 1 (.t 74) (.c (.i .i64 0))),Al 76 75,Am 17 76]) (.seq (.reg [Al 77 14,Au 78 (.slc 1 (.t 77) (some (.c (.i .i64 1))) none),As 1 14 78]) (.seq (.reg [Al 79 6,Am 80 17,Ai 81 3 79 80,Ag 82 3 81,Au 83 (.call L0r [.t 82]),An 84 0 83,Ac 85 0]) (.blk 8 (.loop (.seq
 (.reg [Aj .lss 86 85 84]) (.seq (.ite (.t 86) .skip (.exit 8)) (.seq (.blk 9 (.seq (.reg [Ai 87 2 83 85,Ag 88 2 87,Au 19 (.alloc [(.i .i64 0),(.i .i64 0)]),As 2 19 88]) (.seq (.reg [Am 89 7,Ag 90 2 19,Au 91 (.call L0p [.t 90]),Au 92 (.lk [1,1] .nil false (.t 89) (.t 91)),An 93 0 92,Ac 94 0]) (.blk 10 (.loop (.seq (.reg [Aj .lss 95 94 93]) (.seq (.ite (.t 95) .skip (.exit 10)) (.seq (.blk 11 (.seq (.reg [Ai 96 1 92 94,Al 97 96,Am 21 97]) (.reg [Am 98 15,Am 99 21,Ag 100 2 19,Au 101 (.callv (.t 98) [.t 99,.t 100])]))) (.reg [Ad 102 94 1,Am 94 102]))))))))) (.reg [Ad 103 85 1,Am 85 103]))))))))))))))))
 (.reg [Ad 104 64 1,Am 64 104]))))))) (.seq (.seq (.reg [Al 105 6,Au 106 (.call L0q [.t 105]),Au 107 (.un .not (.t 106))]) (.ite (.t 107) (.seq (.reg [Au 108 (.build [.nil,.nil] []),As 2 2 108,Ac 3 0,Ac 4 13]) .ret) .skip)) (.seq (.drw [Af 109 0 1,Al 110 109,Au 111 (.call L1u [.t 110]),Al 112 6,Au 113 (.build [.nil,.nil] [(0,1,(.t 111)),(1,1,(.t 112))]),Al 114 13,As 2 2 113,Am 3 114,Ac 4 0] [[],[],[],[2],[],[2],[5],[],[]]) .ret))))))))))))
def L0m.r:List Rr:=[.cell 2 (some 2),.tmp 3,.tmp 4]
abbrev L0m.n:Nat:=115
def L0p.c:C :=(.seq (.reg [Au 1 (.box (.t 0)),Au 2 (.alloc [(.i .i64 0),(.i .i64 0)])]) (.seq (.reg [Af 3 0 1,Al 4 3,Af 5 1 1,Al 6 5,Au 7 (.mn [.t 4,.t 6]),Af 8 0 1,Al 9 8,Af 10 1 1,Al 11 10,Au 12 (.mx [.t 9,.t 11]),Au 13 (.build [(.i .i64 0),(.i .i64 0)] [(0,1,(.t 7)),(1,1,(.t 12))]),As 2 2 13]) .ret))
def L0p.r:List Rr:=[.cell 2 (some 2)]
abbrev L0p.n:Nat:=14
def L0n.c (L0r L1v L0s:FuncId):C :=(.seq (.reg [Au 7 (.box (.t 1))]) (.seq (.seq (.reg [Al 8 2,Am 9 0,Ai 10 1 8 9,Al 11 10]) (.ite (.t 11) .ret .skip)) (.seq (.reg [Al 12 2,Am 13 0,Ai 14 1 12 13,⟨none,none,.st 1 (.t 14) (.c (.b true))⟩]) (.seq (.seq (.drw [Al 15 3,Am 16 0,Ai 17 3 15 16,Ag 18 3 17,Au 19 (.call L0r [.t 18]),Ag 20 2 7,Au 21 (.call L1v [.t 19,.t 20])] [[],[],[],[],[],[4],[]]) (.ite (.t 21) (.seq (.drw [Al 22 3,Am 23 0,Al 24 3,Am 25 0,Ai 26 3 24 25,Ag 27 3 26,Au 28 (.call L0s [.t 27]),Ai 29 3 22 23,As 3 29 28] [[],[],[],[],[],[],[0],[],[]]) (.reg [Al 30 4,Ad 31 30 1,As 1 4 31])) .skip))
 (.reg [Al 32 5,Am 33 0,Au 34 (.bsi 1 1 [(.i .i64 0)] [(0,(.t 33))]),Au 35 (.app 1 8 (.t 32) (.t 34)),As 1 5 35])))))
def L0n.r:List Rr:=[]
abbrev L0n.n:Nat:=36
def L1v.c (L1w:FuncId):C :=(.seq (.reg [Au 3 (.box (.t 1)),Ab 4 false]) (.seq (.reg [Am 5 0,Ag 6 2 3,Au 7 (.call L1w [.t 5,.t 6]),Ak .geq 8 7 0,Am 4 8]) .ret))
def L1v.r:List Rr:=[.tmp 4]
abbrev L1v.n:Nat:=9
def L1w.c:C :=(.seq (.reg [Au 3 (.box (.t 1)),Ac 4 0]) (.seq (.seq (.reg [Am 6 0,An 7 0 6,Ac 8 0]) (.blk 0 (.loop (.seq (.reg [Aj .lss 9 8 7]) (.seq (.ite (.t 9) .skip (.exit 0)) (.seq (.blk 1 (.seq (.reg [Am 10 8,Am 5 10]) (.seq (.drw [Ag 11 2 3,Am 12 0,Am 13 5,Ai 14 2 12 13,Ag 15 2 14,Au 16 (.eqa [1,1] false (.t 11) (.t 15))] []) (.ite (.t 16) (.seq (.reg [Am 17 5,Am 4 17]) .ret) .skip)))) (.reg [Ad 18 8 1,Am 8 18]))))))) (.seq (.reg [Ac 4 (-1)]) .ret)))
def L1w.r:List Rr:=[.tmp 4]
abbrev L1w.n:Nat:=19
def L0s.c:C :=(.seq (.reg [Au 1 (.box (.t 0)),Au 2 (.alloc [(.i .i64 0),(.i .i64 0),(.i .i64 0)])]) (.seq (.reg [Af 3 0 1,Al 4 3,Af 5 2 1,Al 6 5,Af 7 1 1,Al 8 7,Au 9 (.build [(.i .i64 0),(.i .i64 0),(.i .i64 0)] [(0,1,(.t 4)),(1,1,(.t 6)),(2,1,(.t 8))]),As 3 2 9]) .ret))
def L0s.r:List Rr:=[.cell 2 (some 3)]
abbrev L0s.n:Nat:=10
theorem Qmf (h:List O) (id:Nat):Zl h (.mp id)=match h[id]? with | some (.mp es)=>some es | some (.md es)=>some es | _=>none:=Rfl rfl
attribute [go_sem] Qmf V.isT
def asE (p:P2 × Int):V × V:=(p.1.enc,.i .i64 p.2)
def fnd (e:P2):List (P2 × Int)->Option (Nat × Int)
 | []=>none
 | (k,n)::r=>if e=k then some (0,n) else (fnd e r).map λp=>(p.1+1,p.2)
theorem veq2 (a b:P2):Ze [1,1] a.enc.cells b.enc.cells=some (decide (a=b)):=by
 cases a;cases b
 simp[Ze,P2.enc,P2.cs,V.cells,Q03,P2.mk.injEq]
 rw[Bool.eq_iff_iff];simp
theorem Qef (e:P2):∀L:List (P2 × Int),Qj [1,1] e.enc (L.map asE)=some ((fnd e L).map λp=>(p.1,.i .i64 p.2))
 | []=>rfl
 | (k,n)::r=>by
   simp only[List.map_cons,asE,Qj,fnd]
   rw[if_pos (by rfl),veq2]
   by_cases h:e=k
   ·simp[h]
   ·simp only[h,decide_false,if_false]
    have:=Qef e r
    rw[this]
    cases fnd e r<;>rfl
theorem Q6c {e:P2}:∀{L:List (P2 × Int)},fnd e L=none↔∀p∈L,p.1≠e
 | []=>by simp[fnd]
 | (k,n)::r=>by
   simp only[fnd]
   by_cases h:e=k
   ·simp[h]
   ·have h':¬ k=e:=λhh=>h hh.symm
    rw[if_neg h,Option.map_eq_none_iff,Q6c (L:=r)]
    simp[h']
theorem Qb1 {e:P2} {n:Int}:∀{L:List (P2 × Int)},fnd e L=none->fnd e (L++[(e,n)])=some (L.length,n)
 | [],_=>by simp[fnd]
 | (k,m)::r,h=>by
   simp only[fnd]at h
   by_cases hk:e=k
   ·simp[hk]at h
   ·simp only[hk,if_false,Option.map_eq_none_iff]at h
    simp[fnd,hk,Qb1 h]
theorem Wu {e:P2} {i:Nat} {n n':Int}:∀{L:List (P2 × Int)},fnd e L=some (i,n)->L[i]?=some (e,n)/\fnd e (L.set i (e,n'))=some (i,n')
 | [],h=>by simp[fnd]at h
 | (k,m)::r,h=>by
   simp only[fnd]at h
   by_cases hk:e=k
   ·simp[hk]at h;obtain⟨rfl,rfl⟩:=h;simp[fnd,hk]
   ·simp only[hk,if_false,qa,Prod.mk.injEq]at h
    obtain⟨⟨j,n1⟩,hj,rfl,rfl⟩:=h
    have:=Wu (n':=n') hj
    simp[fnd,hk,this.1,this.2]
def Yq (t:T3):List P2:=[⟨t.a,t.b⟩,⟨t.b,t.c⟩,⟨t.c,t.a⟩]
def Zs (t:T3) (k:Nat):List P2:=((Yq t).take k).filter λe=>decide (e.x≠e.y)
def Q6 (t:T3):List P2:=Zs t 3
def Wz (P:Program) (f:FuncId):Prop:=∀t:T3,CallIs P f [t.enc] (psV (Q6 t))
theorem Qpg (p:P2):(∀y∈p.cs,y.isD=true)=True:=by simp[P2.cs,V.isD]
theorem Q08 (t:P2) (n:Nat):(∀y∈t.cs,y.cl n=true)=True:=by simp[P2.cs,V.cl,V.cl1,V.cl0]
theorem Qs4 (t:T3):Zs t 0=[]:=rfl
theorem Qry (x y:Int) (l:List P2):(l++[(⟨x,y⟩:P2)]).filter (λe=>decide (e.x≠e.y))=if x=y then l.filter (λe=>decide (e.x≠e.y)) else l.filter (λe=>decide (e.x≠e.y))++[⟨x,y⟩]:=by
 rw[List.filter_append]
 by_cases h:x=y<;>simp[h]
theorem Qs3 (t:T3):Zs t 1=if t.a=t.b then Zs t 0 else Zs t 0++[⟨t.a,t.b⟩]:=Qry t.a t.b []
theorem Qs2 (t:T3):Zs t 2=if t.b=t.c then Zs t 1 else Zs t 1++[⟨t.b,t.c⟩]:=Qry t.b t.c [⟨t.a,t.b⟩]
theorem Qs1 (t:T3):Zs t 3=if t.c=t.a then Zs t 2 else Zs t 2++[⟨t.c,t.a⟩]:=Qry t.c t.a [⟨t.a,t.b⟩,⟨t.b,t.c⟩]
theorem Yi (t:T3) (k:Nat):(Zs t k).length<=3:=by
 refine Nat.le_trans (j9 _ _) ?_
 simp[Yq];omega
section
variable {P:Program} (hm:P.follows .mixedOrders=true)
include hm
theorem U4 {f:FuncId} (hf:Qa P f L0r.c L0r.r L0r.n):Wz P f:=by
 intro t
 refine PureC.is (Q8 hm hf (qh rfl) ?_) rfl
 unfold L0r.c
 simp[go_sem,T3.enc,T3.cs]
 have w1:IntKind.i64.wrap 1=1:=rfl
 have w2:IntKind.i64.wrap 2=2:=rfl
 have w3:IntKind.i64.wrap 3=3:=rfl
 refine Z5 [.t 3 2] (α:=Nat) (λk=>k<=3)
  (λk=>⟨[(3,.own 1 ((Zs t k).length+1) 0 (Zs t k).length),(21,.a [.i .i64 t.a,.i .i64 t.b,.i .i64 t.b,.i .i64 t.c,.i .i64 t.c,.i .i64 t.a]),(22,.i .i64 k)],
   [.dead,.arr ((Zs t k).length+1) 2 ((Zs t k).map P2.cs)]⟩)
  (λk=>3-k) 0 (by omega) ?_ ?_
 ·simp[go_sem,Qs4]
 ·intro k hk
  have hl:=Yi t k
  by_cases h3:k=3
  ·subst h3
   simp[go_sem,L0r.r,psV,Q6,Qpg]
  ·have:k=0∨k=1∨k=2:=by omega
   rcases this with rfl | rfl | rfl
   ·have hs:=Qs3 t
    generalize hE:Zs t 0=E0 at hs hl
    by_cases h:t.a=t.b
    ·rw[if_pos h]at hs
     simp[go_sem,h,w1,w2,w3]
     exact⟨1,by omega,by omega,by simp[hs],by simp[hs],by simp[Q08]⟩
    ·rw[if_neg h]at hs
     simp[go_sem,h,w1,w2,w3]
     exact⟨by omega,1,by omega,by omega,by simp[hs],by simp[hs,pcs,or_imp,forall_and,V.cl,V.cl1,V.cl0]⟩
   ·have hs:=Qs2 t
    generalize hE:Zs t 1=E0 at hs hl
    by_cases h:t.b=t.c
    ·rw[if_pos h]at hs
     simp[go_sem,h,w1,w2,w3]
     exact⟨2,by omega,by omega,by simp[hs],by simp[hs],by simp[Q08]⟩
    ·rw[if_neg h]at hs
     simp[go_sem,h,w1,w2,w3]
     exact⟨by omega,2,by omega,by omega,by simp[hs],by simp[hs,pcs,or_imp,forall_and,V.cl,V.cl1,V.cl0]⟩
   ·have hs:=Qs1 t
    generalize hE:Zs t 2=E0 at hs hl
    by_cases h:t.c=t.a
    ·rw[if_pos h]at hs
     simp[go_sem,h,w1,w2,w3]
     exact⟨3,by omega,by omega,by simp[hs],by simp[hs],by simp[Q08]⟩
    ·rw[if_neg h]at hs
     simp[go_sem,h,w1,w2,w3]
     exact⟨by omega,3,by omega,by omega,by simp[hs],by simp[hs,pcs,or_imp,forall_and,V.cl,V.cl1,V.cl0]⟩
end
def Qc (l:List T3):List P2:=l.flatMap Q6
def Ke (l:List T3):Bool:=decide (Qc l).Nodup
def Qu5 (P:Program) (f:FuncId):Prop:=∀l:List T3,l.length<=1000000->CallIs P f [tsV l] (.b (Ke l))
def asV (p:P2 × Int):V × V:=(.a [.i .i64 p.1.x,.i .i64 p.1.y],.i .i64 p.2)
theorem Xe (e:P2) (L:List (P2 × Int)):Qj [1,1] (.a [.i .i64 e.x,.i .i64 e.y]) (L.map asV)=some ((fnd e L).map λp=>(p.1,.i .i64 p.2)):=Qef e L
def Xz (S:List P2):List (P2 × Int):=S.map λe=>(e,1)
theorem Ii {e:P2} {S:List P2} (h:e∉S):fnd e (Xz S)=none:=by
 rw[Q6c]
 intro p hp
 simp only[Xz,qp]at hp
 obtain⟨a,ha,rfl⟩:=hp
 rintro rfl
 exact h ha
theorem Ih {e:P2}:∀{S:List P2},e∈S->∃i,fnd e (Xz S)=some (i,1)
 | [],h=>by simp at h
 | a::S,h=>by
   by_cases ha:e=a
   ·exact⟨0,by simp[Xz,fnd,ha]⟩
   ·have:e∈S:=by simpa[ha]using h
    obtain⟨i,hi⟩:=Ih this
    exact⟨i+1,by simp only[Xz,List.map_cons,fnd,if_neg ha];rw[show S.map (λe=>(e,(1:Int)))=Xz S from rfl,hi];rfl⟩
theorem Qpk (S:List P2) (e:P2):Xz (S++[e])=Xz S++[(e,1)]:=by simp[Xz]
theorem Zt (L:List (P2 × Int)) (n:Nat):∀(a b:V) (x:P2) (y:Int),(x,y)∈L->asV (x,y)=(a,b)->V.cl n a=true/\V.cl n b=true:=by
 rintro _ _ x y _ h
 simp only[asV,Prod.mk.injEq]at h
 obtain⟨rfl,rfl⟩:=h
 exact⟨rfl,rfl⟩
theorem Xq {l:List T3} {k:Nat} {t:T3} (h:l[k]?=some t):Qc (l.take (k+1))=Qc (l.take k)++Q6 t:=by
 simp[Qc,List.take_add_one,h]
theorem E7 (l:List T3) (k:Nat):(Qc (l.take k)).length<=3*k:=by
 induction k with
 | zero=>simp[Qc]
 | succ k ih =>
   by_cases hk:k<l.length
   ·rw[Xq (q9 hk),j4]
    have:(Q6 l[k]).length<=3:=Yi _ 3
    omega
   ·rw[qe (by omega)]at ih ⊢;omega
theorem coh_pre {l:List T3} {k:Nat} {S:List P2} (h:S <+: Q6 ((l[k]?).getD ⟨0,0,0⟩)) (hk:k<l.length):Qc (l.take k)++S <+: Qc l:=by
 have h1:l[k]?=some l[k]:=q9 hk
 rw[h1]at h
 obtain⟨r,hr⟩:=h
 have h2:Qc l=Qc (l.take (k+1))++Qc (l.drop (k+1)):=by
  rw[Qc,Qc,Qc,<- List.flatMap_append,List.take_append_drop]
 rw[h2,Xq h1,show Q6 l[k]=S++r from hr.symm]
 exact⟨r++Qc (l.drop (k+1)),by simp⟩
section
variable {P:Program} (hm:P.follows .mixedOrders=true)
include hm
theorem B1 {f fe:FuncId} (hf:Qa P f (L0q.c fe) L0q.r L0q.n) (he:Wz P fe):Qu5 P f:=by
 intro l hl
 refine PureC.is (Q8 hm hf (qh rfl) ?_) rfl
 unfold L0q.c
 simp[go_sem,tsV]
 refine Qf (α:=Nat) (λk=>k<=l.length/\(Qc (l.take k)).Nodup)
  (λk=>⟨[(3,.mp 0),(9,tsV l),(10,.i .i64 l.length),(11,.i .i64 k)],[.mp ((Xz (Qc (l.take k))).map asV)]⟩)
  (λk=>l.length-k) 0 ⟨by omega,by simp[Qc]⟩ ?_ ?_
 ·simp[go_sem,tsV,Qc,Xz]
 ·rintro k ⟨hk,hnd⟩
  by_cases hkl:k=l.length
  ·subst hkl
   simp[go_sem,tsV,L0q.r]
   rw[qi]at hnd
   simp[Ke,hnd]
  ·have hlt:k<l.length:=by omega
   have hp:l[k]?=some l[k]:=q9 hlt
   generalize l[k]=t at hp
   obtain⟨_,hp'⟩:=q8.1 hp
   simp[go_sem,tsV,hlt,hp',tcs]
   refine Q4 (he t) ?_
   have hlen:(Q6 t).length<=3:=Yi t 3
   simp[go_sem,psV]
   refine Qf (α:=Nat) (λj=>j<=(Q6 t).length/\(Qc (l.take k)++(Q6 t).take j).Nodup)
    (λj=>⟨[(3,.mp 0),(9,tsV l),(10,.i .i64 l.length),(11,.i .i64 k),(16,psV (Q6 t)),(17,.i .i64 (Q6 t).length),(18,.i .i64 j)],[.mp ((Xz (Qc (l.take k)++(Q6 t).take j)).map asV)]⟩)
    (λj=>(Q6 t).length-j) 0 ⟨by omega,by simpa using hnd⟩ ?_ ?_
   ·simp[go_sem,tsV,psV]
    exact Zt _ 1
   ·rintro j ⟨hj,hnd2⟩
    by_cases hjl:j=(Q6 t).length
    ·subst hjl
     simp (disch:=omega) [go_sem,tsV,psV,Q3]
     rw[qi]at hnd2
     exact⟨k+1,⟨by omega,by rw[Xq hp];exact hnd2⟩,by omega,by omega,by rw[Xq hp],Zt _ 1⟩
    ·have hjlt:j<(Q6 t).length:=by omega
     have hq:(Q6 t)[j]?=some (Q6 t)[j]:=q9 hjlt
     have htk:(Q6 t).take (j+1)=(Q6 t).take j++[(Q6 t)[j]]:=by rw[List.take_add_one,hq];rfl
     generalize (Q6 t)[j]=e at hq htk
     obtain⟨_,hq'⟩:=q8.1 hq
     have hpre:=coh_pre (l:=l) (k:=k) (S:=(Q6 t).take (j+1)) (by rw[hp];exact List.take_prefix _ _) hlt
     rw[htk,<- j3]at hpre
     generalize hS:Qc (l.take k)++(Q6 t).take j=S at hnd2 hpre
     by_cases hmem:e∈S
     ·obtain⟨i,hi⟩:=Ih hmem
      have h1:=Xe e (Xz S)
      rw[hi]at h1
      simp only[Option.map_some]at h1
      have h3:Qj [1,1] (V.a [V.i IntKind.i64 e.x,V.i IntKind.i64 e.y]) ((List.map asV (Xz S)).set i (V.a [V.i .i64 e.x,V.i .i64 e.y],V.i .i64 2))=some (some (i,.i .i64 2)):=by
       have:=Xe e ((Xz S).set i (e,2))
       rw[(Wu (n':=2) hi).2,List.map_set]at this
       exact this
      have hil:i<(Xz S).length:=(q8.1 (Wu (n':=2) hi).1).1
      have hil':i<(List.map asV (Xz S)).length:=by simpa using hil
      have w2:IntKind.i64.wrap 2=2:=rfl
      simp[go_sem,psV,hjlt,hq',pcs,h1,h3,w2,qn hil',List.set_set,L0q.r]
      unfold Ke
      rw[decide_eq_false]
      intro hall
      have:=hall.sublist hpre.sublist
      rw[List.nodup_append]at this
      exact this.2.2 e hmem e (by simp) rfl
     ·have h1:=Xe e (Xz S)
      rw[Ii hmem]at h1
      simp only[Option.map_none]at h1
      have w1:IntKind.i64.wrap 1=1:=rfl
      have h3:Qj [1,1] (V.a [V.i IntKind.i64 e.x,V.i IntKind.i64 e.y]) (List.map asV (Xz S)++[(V.a [V.i .i64 e.x,V.i .i64 e.y],V.i .i64 1)])=some (some ((Xz S).length,.i .i64 1)):=by
       have:=Xe e (Xz S++[(e,1)])
       rw[Qb1 (Ii hmem),qx]at this
       exact this
      simp[go_sem,psV,hjlt,hq',pcs,h1,h3,w1]
      have hS1:Qc (l.take k)++(Q6 t).take (j+1)=S++[e]:=by rw[htk,<- j3,hS]
      refine⟨j+1,⟨by omega,?_⟩,by omega,⟨.inr rfl,Q3 (by omega) (by omega)⟩,?_,Zt _ 1⟩
      ·rw[hS1,List.nodup_append]
       exact⟨hnd2,by simp,λa ha b hb=>by simp at hb;subst hb;rintro rfl;exact hmem ha⟩
      ·rw[hS1,Qpk,qx];rfl
end
end Go.Abs
