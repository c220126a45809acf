/- Part of the library on which the proof stands: an abstract machine, its values and its soundness against the model; or what functions of the program do to such values. -/
import Derived.Test.YtcdjgldeiaiaoaaGreatGoShpA
import Derived.Test.YtcdjgldeiaiaoaaGreatGoRevC
set_option linter.unusedVariables false
set_option linter.unusedSimpArgs false
set_option maxHeartbeats 4000000
namespace Go.Abs
theorem Qhr (h:List O) (id:Nat):Y0 h (.mp id)=match h[id]? with | some (.mp es)=>some es | some (.md es)=>some es | _=>none:=Rfl rfl
attribute [go_sem] Qhr V.isT
def asE (p:P2 × Int):V × V:=(p.1.enc,.i .i64 p.2)
def fnd (e:P2):List (P2 × Int)->Option (Nat × Int)
 | []=>none
 | (k,n)::r=>if e=k then some (0,n) else (fnd e r).map λp=>(p.1+1,p.2)
theorem veq2 (a b:P2):Z5 [1,1] a.enc.cells b.enc.cells=some (decide (a=b)):=by
 cases a;cases b
 simp[Z5,P2.enc,P2.cs,V.cells,Iy,P2.mk.injEq]
 rw[Bool.eq_iff_iff];simp
theorem Qay (e:P2):∀L:List (P2 × Int),Qi [1,1] e.enc (L.map asE)=some ((fnd e L).map λp=>(p.1,.i .i64 p.2))
 | []=>rfl
 | (k,n)::r=>by
   simp only[List.map_cons,asE,Qi,fnd]
   rw[if_pos (by rfl),veq2]
   by_cases h:e=k
   ·simp[h]
   ·simp only[h,decide_false,if_false]
    have:=Qay e r
    rw[this]
    cases fnd e r<;>rfl
theorem Q4m {e:P2}:∀{L:List (P2 × Int)},fnd e L=none↔∀p∈L,p.1≠e
 | []=>by simp[fnd]
 | (k,n)::r=>by
   simp only[fnd]
   by_cases h:e=k
   ·simp[h]
   ·have h':¬ k=e:=λhh=>h hh.symm
    rw[if_neg h,Option.map_eq_none_iff,Q4m (L:=r)]
    simp[h']
theorem Q8e {e:P2} {n:Int}:∀{L:List (P2 × Int)},fnd e L=none->fnd e (L++[(e,n)])=some (L.length,n)
 | [],_=>by simp[fnd]
 | (k,m)::r,h=>by
   simp only[fnd]at h
   by_cases hk:e=k
   ·simp[hk]at h
   ·simp only[hk,if_false,Option.map_eq_none_iff]at h
    simp[fnd,hk,Q8e h]
theorem W2 {e:P2} {i:Nat} {n n':Int}:∀{L:List (P2 × Int)},fnd e L=some (i,n)->L[i]?=some (e,n)/\fnd e (L.set i (e,n'))=some (i,n')
 | [],h=>by simp[fnd]at h
 | (k,m)::r,h=>by
   simp only[fnd]at h
   by_cases hk:e=k
   ·simp[hk]at h;obtain⟨rfl,rfl⟩:=h;simp[fnd,hk]
   ·simp only[hk,if_false,qa,Prod.mk.injEq]at h
    obtain⟨⟨j,n1⟩,hj,rfl,rfl⟩:=h
    have:=W2 (n':=n') hj
    simp[fnd,hk,this.1,this.2]
def Y5 (t:T3):List P2:=[⟨t.a,t.b⟩,⟨t.b,t.c⟩,⟨t.c,t.a⟩]
def Zn (t:T3) (k:Nat):List P2:=((Y5 t).take k).filter λe=>decide (e.x≠e.y)
def Q5 (t:T3):List P2:=Zn t 3
def W9 (P:Program) (f:FuncId):Prop:=∀t:T3,CallIs P f [t.enc] (psV (Q5 t))
theorem Qk2 (p:P2):(∀y∈p.cs,y.isD=true)=True:=by simp[P2.cs,V.isD]
theorem Qk3 (t:P2) (n:Nat):(∀y∈t.cs,y.cl n=true)=True:=by simp[P2.cs,V.cl,V.cl1,V.cl0]
theorem Qmb (t:T3):Zn t 0=[]:=rfl
theorem Qm2 (x y:Int) (l:List P2):(l++[(⟨x,y⟩:P2)]).filter (λe=>decide (e.x≠e.y))=if x=y then l.filter (λe=>decide (e.x≠e.y)) else l.filter (λe=>decide (e.x≠e.y))++[⟨x,y⟩]:=by
 rw[List.filter_append]
 by_cases h:x=y<;>simp[h]
theorem Qma (t:T3):Zn t 1=if t.a=t.b then Zn t 0 else Zn t 0++[⟨t.a,t.b⟩]:=Qm2 t.a t.b []
theorem Qm9 (t:T3):Zn t 2=if t.b=t.c then Zn t 1 else Zn t 1++[⟨t.b,t.c⟩]:=Qm2 t.b t.c [⟨t.a,t.b⟩]
theorem Qm8 (t:T3):Zn t 3=if t.c=t.a then Zn t 2 else Zn t 2++[⟨t.c,t.a⟩]:=Qm2 t.c t.a [⟨t.a,t.b⟩,⟨t.b,t.c⟩]
theorem Ya (t:T3) (k:Nat):(Zn t k).length<=3:=by
 refine Nat.le_trans (j8 _ _) ?_
 simp[Y5];omega
section
variable {P:Program} (hm:P.follows .mixedOrders=true)
include hm
theorem We {f:FuncId} (hf:Qc P f L0i.c L0i.r L0i.n):W9 P f:=by
 intro t
 refine PureC.is (Q9 hm hf (qh rfl) ?_) rfl
 unfold L0i.c
 simp[go_sem,T3.enc,T3.cs]
 have w1:IntKind.i64.wrap 1=1:=rfl
 have w2:IntKind.i64.wrap 2=2:=rfl
 have w3:IntKind.i64.wrap 3=3:=rfl
 refine Y9 [.t 3 2] (α:=Nat) (λk=>k<=3)
  (λk=>⟨[(3,.own 1 ((Zn t k).length+1) 0 (Zn t k).length),(21,.a [.i .i64 t.a,.i .i64 t.b,.i .i64 t.b,.i .i64 t.c,.i .i64 t.c,.i .i64 t.a]),(22,.i .i64 k)],
   [.dead,.arr ((Zn t k).length+1) 2 ((Zn t k).map P2.cs)]⟩)
  (λk=>3-k) 0 (by omega) ?_ ?_
 ·simp[go_sem,Qmb]
 ·intro k hk
  have hl:=Ya t k
  by_cases h3:k=3
  ·subst h3
   simp[go_sem,L0i.r,psV,Q5,Qk2]
  ·have:k=0∨k=1∨k=2:=by omega
   rcases this with rfl | rfl | rfl
   ·have hs:=Qma t
    generalize hE:Zn t 0=E0 at hs hl
    by_cases h:t.a=t.b
    ·rw[if_pos h]at hs
     simp[go_sem,h,w1,w2,w3]
     exact⟨1,by omega,by omega,by simp[hs],by simp[hs],by simp[Qk3]⟩
    ·rw[if_neg h]at hs
     simp[go_sem,h,w1,w2,w3]
     exact⟨by omega,1,by omega,by omega,by simp[hs],by simp[hs,pcs,or_imp,forall_and,V.cl,V.cl1,V.cl0]⟩
   ·have hs:=Qm9 t
    generalize hE:Zn t 1=E0 at hs hl
    by_cases h:t.b=t.c
    ·rw[if_pos h]at hs
     simp[go_sem,h,w1,w2,w3]
     exact⟨2,by omega,by omega,by simp[hs],by simp[hs],by simp[Qk3]⟩
    ·rw[if_neg h]at hs
     simp[go_sem,h,w1,w2,w3]
     exact⟨by omega,2,by omega,by omega,by simp[hs],by simp[hs,pcs,or_imp,forall_and,V.cl,V.cl1,V.cl0]⟩
   ·have hs:=Qm8 t
    generalize hE:Zn t 2=E0 at hs hl
    by_cases h:t.c=t.a
    ·rw[if_pos h]at hs
     simp[go_sem,h,w1,w2,w3]
     exact⟨3,by omega,by omega,by simp[hs],by simp[hs],by simp[Qk3]⟩
    ·rw[if_neg h]at hs
     simp[go_sem,h,w1,w2,w3]
     exact⟨by omega,3,by omega,by omega,by simp[hs],by simp[hs,pcs,or_imp,forall_and,V.cl,V.cl1,V.cl0]⟩
end
def Q8 (l:List T3):List P2:=l.flatMap Q5
def cohB (l:List T3):Bool:=decide (Q8 l).Nodup
def Qo1 (P:Program) (f:FuncId):Prop:=∀l:List T3,l.length<=1000000->CallIs P f [tsV l] (.b (cohB l))
def asV (p:P2 × Int):V × V:=(.a [.i .i64 p.1.x,.i .i64 p.1.y],.i .i64 p.2)
theorem X9 (e:P2) (L:List (P2 × Int)):Qi [1,1] (.a [.i .i64 e.x,.i .i64 e.y]) (L.map asV)=some ((fnd e L).map λp=>(p.1,.i .i64 p.2)):=Qay e L
def Xm (S:List P2):List (P2 × Int):=S.map λe=>(e,1)
theorem E6 {e:P2} {S:List P2} (h:e∉S):fnd e (Xm S)=none:=by
 rw[Q4m]
 intro p hp
 simp only[Xm,qp]at hp
 obtain⟨a,ha,rfl⟩:=hp
 rintro rfl
 exact h ha
theorem E5 {e:P2}:∀{S:List P2},e∈S->∃i,fnd e (Xm S)=some (i,1)
 | [],h=>by simp at h
 | a::S,h=>by
   by_cases ha:e=a
   ·exact⟨0,by simp[Xm,fnd,ha]⟩
   ·have:e∈S:=by simpa[ha]using h
    obtain⟨i,hi⟩:=E5 this
    exact⟨i+1,by simp only[Xm,List.map_cons,fnd,if_neg ha];rw[show S.map (λe=>(e,(1:Int)))=Xm S from rfl,hi];rfl⟩
theorem Qk6 (S:List P2) (e:P2):Xm (S++[e])=Xm S++[(e,1)]:=by simp[Xm]
theorem Zo (L:List (P2 × Int)) (n:Nat):∀(a b:V) (x:P2) (y:Int),(x,y)∈L->asV (x,y)=(a,b)->V.cl n a=true/\V.cl n b=true:=by
 rintro _ _ x y _ h
 simp only[asV,Prod.mk.injEq]at h
 obtain⟨rfl,rfl⟩:=h
 exact⟨rfl,rfl⟩
theorem Xk {l:List T3} {k:Nat} {t:T3} (h:l[k]?=some t):Q8 (l.take (k+1))=Q8 (l.take k)++Q5 t:=by
 simp[Q8,List.take_add_one,h]
theorem K8 (l:List T3) (k:Nat):(Q8 (l.take k)).length<=3*k:=by
 induction k with
 | zero=>simp[Q8]
 | succ k ih =>
   by_cases hk:k<l.length
   ·rw[Xk (q9 hk),j3]
    have:(Q5 l[k]).length<=3:=Ya _ 3
    omega
   ·rw[qe (by omega)]at ih ⊢;omega
theorem coh_pre {l:List T3} {k:Nat} {S:List P2} (h:S <+: Q5 ((l[k]?).getD ⟨0,0,0⟩)) (hk:k<l.length):Q8 (l.take k)++S <+: Q8 l:=by
 have h1:l[k]?=some l[k]:=q9 hk
 rw[h1]at h
 obtain⟨r,hr⟩:=h
 have h2:Q8 l=Q8 (l.take (k+1))++Q8 (l.drop (k+1)):=by
  rw[Q8,Q8,Q8,<- List.flatMap_append,List.take_append_drop]
 rw[h2,Xk h1,show Q5 l[k]=S++r from hr.symm]
 exact⟨r++Q8 (l.drop (k+1)),by simp⟩
section
variable {P:Program} (hm:P.follows .mixedOrders=true)
include hm
theorem En {f fe:FuncId} (hf:Qc P f (L0h.c fe) L0h.r L0h.n) (he:W9 P fe):Qo1 P f:=by
 intro l hl
 refine PureC.is (Q9 hm hf (qh rfl) ?_) rfl
 unfold L0h.c
 simp[go_sem,tsV]
 refine Ql (α:=Nat) (λk=>k<=l.length/\(Q8 (l.take k)).Nodup)
  (λk=>⟨[(3,.mp 0),(9,tsV l),(10,.i .i64 l.length),(11,.i .i64 k)],[.mp ((Xm (Q8 (l.take k))).map asV)]⟩)
  (λk=>l.length-k) 0 ⟨by omega,by simp[Q8]⟩ ?_ ?_
 ·simp[go_sem,tsV,Q8,Xm]
 ·rintro k ⟨hk,hnd⟩
  by_cases hkl:k=l.length
  ·subst hkl
   simp[go_sem,tsV,L0h.r]
   rw[qi]at hnd
   simp[cohB,hnd]
  ·have hlt:k<l.length:=by omega
   have hp:l[k]?=some l[k]:=q9 hlt
   generalize l[k]=t at hp
   obtain⟨_,hp'⟩:=q8.1 hp
   simp[go_sem,tsV,hlt,hp',tcs]
   refine Q6 (he t) ?_
   have hlen:(Q5 t).length<=3:=Ya t 3
   simp[go_sem,psV]
   refine Ql (α:=Nat) (λj=>j<=(Q5 t).length/\(Q8 (l.take k)++(Q5 t).take j).Nodup)
    (λj=>⟨[(3,.mp 0),(9,tsV l),(10,.i .i64 l.length),(11,.i .i64 k),(16,psV (Q5 t)),(17,.i .i64 (Q5 t).length),(18,.i .i64 j)],[.mp ((Xm (Q8 (l.take k)++(Q5 t).take j)).map asV)]⟩)
    (λj=>(Q5 t).length-j) 0 ⟨by omega,by simpa using hnd⟩ ?_ ?_
   ·simp[go_sem,tsV,psV]
    exact Zo _ 1
   ·rintro j ⟨hj,hnd2⟩
    by_cases hjl:j=(Q5 t).length
    ·subst hjl
     simp (disch:=omega) [go_sem,tsV,psV,Q3]
     rw[qi]at hnd2
     exact⟨k+1,⟨by omega,by rw[Xk hp];exact hnd2⟩,by omega,by omega,by rw[Xk hp],Zo _ 1⟩
    ·have hjlt:j<(Q5 t).length:=by omega
     have hq:(Q5 t)[j]?=some (Q5 t)[j]:=q9 hjlt
     have htk:(Q5 t).take (j+1)=(Q5 t).take j++[(Q5 t)[j]]:=by rw[List.take_add_one,hq];rfl
     generalize (Q5 t)[j]=e at hq htk
     obtain⟨_,hq'⟩:=q8.1 hq
     have hpre:=coh_pre (l:=l) (k:=k) (S:=(Q5 t).take (j+1)) (by rw[hp];exact List.take_prefix _ _) hlt
     rw[htk,<- j2]at hpre
     generalize hS:Q8 (l.take k)++(Q5 t).take j=S at hnd2 hpre
     by_cases hmem:e∈S
     ·obtain⟨i,hi⟩:=E5 hmem
      have h1:=X9 e (Xm S)
      rw[hi]at h1
      simp only[Option.map_some]at h1
      have h3:Qi [1,1] (V.a [V.i IntKind.i64 e.x,V.i IntKind.i64 e.y]) ((List.map asV (Xm S)).set i (V.a [V.i .i64 e.x,V.i .i64 e.y],V.i .i64 2))=some (some (i,.i .i64 2)):=by
       have:=X9 e ((Xm S).set i (e,2))
       rw[(W2 (n':=2) hi).2,List.map_set]at this
       exact this
      have hil:i<(Xm S).length:=(q8.1 (W2 (n':=2) hi).1).1
      have hil':i<(List.map asV (Xm S)).length:=by simpa using hil
      have w2:IntKind.i64.wrap 2=2:=rfl
      simp[go_sem,psV,hjlt,hq',pcs,h1,h3,w2,qn hil',List.set_set,L0h.r]
      unfold cohB
      rw[decide_eq_false]
      intro hall
      have:=hall.sublist hpre.sublist
      rw[List.nodup_append]at this
      exact this.2.2 e hmem e (by simp) rfl
     ·have h1:=X9 e (Xm S)
      rw[E6 hmem]at h1
      simp only[Option.map_none]at h1
      have w1:IntKind.i64.wrap 1=1:=rfl
      have h3:Qi [1,1] (V.a [V.i IntKind.i64 e.x,V.i IntKind.i64 e.y]) (List.map asV (Xm S)++[(V.a [V.i .i64 e.x,V.i .i64 e.y],V.i .i64 1)])=some (some ((Xm S).length,.i .i64 1)):=by
       have:=X9 e (Xm S++[(e,1)])
       rw[Q8e (E6 hmem),qx]at this
       exact this
      simp[go_sem,psV,hjlt,hq',pcs,h1,h3,w1]
      have hS1:Q8 (l.take k)++(Q5 t).take (j+1)=S++[e]:=by rw[htk,<- j2,hS]
      refine⟨j+1,⟨by omega,?_⟩,by omega,⟨.inr rfl,Q3 (by omega) (by omega)⟩,?_,Zo _ 1⟩
      ·rw[hS1,List.nodup_append]
       exact⟨hnd2,by simp,λa ha b hb=>by simp at hb;subst hb;rintro rfl;exact hmem ha⟩
      ·rw[hS1,Qk6,qx];rfl
end
def L1j.c (L09 L1k:FuncId):C :=(.seq (.reg [Au 1 (.box (.t 0)),Au 2 (.mv (.c .mnil))]) (.seq (.reg [Au 8 (.mkm none),Am 3 8]) (.seq (.seq (.reg [Ag 9 2 1,Au 10 (.call L09 [.t 9]),Ak .neq 11 10 0]) (.ite (.t 11) (.seq (.reg [Am 12 3,Am 2 12]) .ret) .skip)) (.seq (.seq (.reg [Af 13 1 1,Al 14 13,An 15 0 14,Ac 16 0]) (.blk 0 (.loop (.seq (.reg [Aj .lss 17 16 15]) (.seq (.ite (.t 17) .skip (.exit 0)) (.seq (.blk 1 (.seq (.reg [Ai 18 3 14 16,Ag 19 3 18,Au 5 (.alloc [(.i .i64 0),(.i .i64 0),(.i .i64 0)]),As 3 5 19]) (.seq (.reg [Ag 20 3 5,Au 21 (.call L1k [.t 20]),An 22 0 21,Ac 23 0]) (.blk 2 (.loop (.seq
 (.reg [Aj .lss 24 23 22]) (.seq (.ite (.t 24) .skip (.exit 2)) (.seq (.blk 3 (.seq (.reg [Ai 25 2 21 23,Ag 26 2 25,Au 7 (.alloc [(.i .i64 0),(.i .i64 0)]),As 2 7 26]) (.reg [Am 27 3,Ag 28 2 7,⟨none,none,.eqa [1,1] false (.t 28) (.t 28)⟩,Au 29 (.lk [1,1] (.i .i64 0) false (.t 27) (.t 28)),Ad 30 29 1,Au 31 (.ment [1,1] (.i .i64 0) (.t 27) (.t 28)),Ax1 32 1 31,⟨none,none,.est (.t 27) (.t 32) (.t 30)⟩]))) (.reg [Ad 33 23 1,Am 23 33]))))))))) (.reg [Ad 34 16 1,Am 16 34]))))))) (.seq (.reg [Am 35 3,Am 2 35]) .ret)))))
def L1j.r:List Rr:=[.tmp 2]
abbrev L1j.n:Nat:=36
def L1m.c:C :=(.seq (.reg [Au 1 (.box (.t 0)),Au 2 (.alloc [(.i .i64 0),(.i .i64 0)])]) (.seq (.reg [Af 3 1 1,Al 4 3,Af 5 0 1,Al 6 5,Au 7 (.build [(.i .i64 0),(.i .i64 0)] [(0,1,(.t 4)),(1,1,(.t 6))]),As 2 2 7]) .ret))
def L1m.r:List Rr:=[.cell 2 (some 2)]
abbrev L1m.n:Nat:=8
def L1k.c:C :=(.seq (.reg [Au 1 (.box (.t 0)),Az 2]) (.seq (.reg [Az 3]) (.seq (.seq (.reg [Af 6 0 1,Al 7 6,Af 8 1 1,Al 9 8,Au 10 (.build [(.i .i64 0),(.i .i64 0)] [(0,1,(.t 7)),(1,1,(.t 9))]),Af 11 1 1,Al 12 11,Af 13 2 1,Al 14 13,Au 15 (.build [(.i .i64 0),(.i .i64 0)] [(0,1,(.t 12)),(1,1,(.t 14))]),Af 16 2 1,Al 17 16,Af 18 0 1,Al 19 18,Au 20 (.build [(.i .i64 0),(.i .i64 0)] [(0,1,(.t 17)),(1,1,(.t 19))]),Au 21 (.build [(.i .i64 0),(.i .i64 0),(.i .i64 0),(.i .i64 0),(.i .i64 0),(.i .i64 0)] [(0,2,(.t 10)),(2,2,(.t 15)),(4,2,(.t 20))]),Ac 22 0]) (.blk 0 (.loop (.seq (.reg [Ak .lss 23 22 3]) (.seq
 (.ite (.t 23) .skip (.exit 0)) (.seq (.blk 1 (.seq (.reg [Au 24 (.ix 3 2 (some 2) (.t 21) (.t 22)),Au 5 (.alloc [(.i .i64 0),(.i .i64 0)]),As 2 5 24]) (.seq (.reg [Af 25 0 5,Al 26 25,Af 27 1 5,Al 28 27,Aj .neq 29 26 28]) (.ite (.t 29) (.reg [Am 30 3,Ag 31 2 5,Au 32 (.bsi 2 1 [(.i .i64 0),(.i .i64 0)] [(0,(.t 31))]),Au 33 (.app 2 16 (.t 30) (.t 32)),Am 3 33]) .skip)))) (.reg [Ad 34 22 1,Am 22 34]))))))) (.seq (.reg [Am 35 3,Am 2 35]) .ret))))
def L1k.r:List Rr:=[.tmp 2]
abbrev L1k.n:Nat:=36
def L1n.c:C :=(.seq (.reg [Au 1 (.box (.t 0)),Au 2 (.alloc [(.i .i64 0),(.i .i64 0)])]) (.seq (.reg [Af 3 0 1,Al 4 3,Af 5 1 1,Al 6 5,Au 7 (.mn [.t 4,.t 6]),Af 8 0 1,Al 9 8,Af 10 1 1,Al 11 10,Au 12 (.mx [.t 9,.t 11]),Au 13 (.build [(.i .i64 0),(.i .i64 0)] [(0,1,(.t 7)),(1,1,(.t 12))]),As 2 2 13]) .ret))
def L1n.r:List Rr:=[.cell 2 (some 2)]
abbrev L1n.n:Nat:=14
def L1l.c (L00 L01:FuncId):C :=(.seq (.reg [Au 2 (.box (.t 0)),Au 3 (.box (.t 1)),Ac 4 0]) (.seq (.drw [Af 5 0 2,Al 6 5,Af 7 0 3,Al 8 7,Au 9 (.call L00 [.t 6,.t 8]),Af 10 1 2,Al 11 10,Af 12 1 3,Al 13 12,Au 14 (.call L00 [.t 11,.t 13]),Au 15 (.bsi 1 2 [(.i .i64 0)] [(0,(.t 9)),(1,(.t 14))]),Au 16 (.call L01 [.t 15]),Am 4 16] [[],[],[],[],[],[4],[4],[4],[4],[],[],[],[]]) .ret))
def L1l.r:List Rr:=[.tmp 4]
abbrev L1l.n:Nat:=17
def L1f.c (L1j L1m slices_SortFunc_api_Edge_api_Edge L1l:FuncId):C :=(.seq (.reg [Au 1 (.box (.t 0)),Az 2]) (.seq (.reg [Ag 7 2 1,Au 8 (.call L1j [.t 7]),Am 3 8]) (.seq (.reg [Az 4]) (.seq (.seq (.reg [Am 9 3,Au 10 (.mrng (.t 9))]) (.blk 0 (.loop (.seq (.reg [Au 11 (.mnx (.t 10)),Ax1 12 0 11]) (.seq (.ite (.t 12) .skip (.exit 0)) (.blk 1 (.seq (.reg [Au 13 (.men (.t 10)),Ax1 14 0 13,Ax1 15 1 13,Au 5 (.alloc [(.i .i64 0),(.i .i64 0)]),As 2 5 14,Am 6 15]) (.seq (.reg [Am 16 6,Am 17 3,Ag 18 2 5,Au 19 (.call L1m [.t 18]),Au 20 (.lk [1,1] (.i .i64 0) false (.t 17) (.t 19)),Aj .gtr 21 16 20]) (.ite (.t 21)
 (.reg [Am 22 4,Ag 23 2 5,Au 24 (.bsi 2 1 [(.i .i64 0),(.i .i64 0)] [(0,(.t 23))]),Au 25 (.app 2 16 (.t 22) (.t 24)),Am 4 25]) .skip))))))))) (.seq (.reg [Am 26 4,Au 27 (.call slices_SortFunc_api_Edge_api_Edge [.t 26,(.c (.f L1l []))])]) (.seq (.reg [Am 28 4,Am 2 28]) .ret))))))
def L1f.r:List Rr:=[.tmp 2]
abbrev L1f.n:Nat:=29
def L1g.c (L09 L1f:FuncId):C :=(.seq (.reg [Au 1 (.box (.t 0)),Ab 2 false]) (.seq (.reg [Ag 3 2 1,Au 4 (.call L09 [.t 3]),Ak .eql 5 4 0,Am 6 5,Av 7 6 (.ld (some 2) (.t 1)),Av 8 6 (.call L1f [.t 7]),Av 9 6 (.len 0 (.t 8)),Av 10 6 (.bin .eql (.t 9) (.c (.i .i64 0))),Ap 11 6 10,Am 2 11]) .ret))
def L1g.r:List Rr:=[.tmp 2]
abbrev L1g.n:Nat:=12
def L1i.c (L09 L1k L1n slices_Sort_int_int:FuncId):C :=(.seq (.reg [Au 1 (.box (.t 0)),Az 2]) (.seq (.seq (.reg [Ag 17 2 1,Au 18 (.call L09 [.t 17]),Ak .neq 19 18 0]) (.ite (.t 19) (.seq (.reg [Az 2]) .ret) .skip)) (.seq (.reg [Au 20 (.mkm none),Am 3 20]) (.seq (.seq (.reg [Af 21 1 1,Al 22 21,An 23 0 22,Ac 24 0]) (.blk 0 (.loop (.seq (.reg [Aj .lss 25 24 23]) (.seq (.ite (.t 25) .skip (.exit 0)) (.seq (.blk 1 (.seq (.reg [Am 26 24,Ai 27 3 22 24,Ag 28 3 27,Au 5 (.alloc [(.i .i64 0),(.i .i64 0),(.i .i64 0)]),Am 4 26,As 3 5 28]) (.seq (.reg [Ag 29 3 5,Au 30 (.call L1k [.t 29]),An 31 0 30,Ac 32 0])
 (.blk 2 (.loop (.seq (.reg [Aj .lss 33 32 31]) (.seq (.ite (.t 33) .skip (.exit 2)) (.seq (.blk 3 (.seq (.reg [Ai 34 2 30 32,Ag 35 2 34,Au 7 (.alloc [(.i .i64 0),(.i .i64 0)]),As 2 7 35]) (.drw [Am 36 3,Ag 37 2 7,Au 38 (.call L1n [.t 37]),Am 39 3,Ag 40 2 7,Au 41 (.call L1n [.t 40]),Au 42 (.lk [1,1] .nil false (.t 39) (.t 41)),Am 43 4,Au 44 (.bsi 1 1 [(.i .i64 0)] [(0,(.t 43))]),Au 45 (.app 1 8 (.t 42) (.t 44)),⟨none,none,.mup [1,1] (.t 36) (.t 38) (.t 45)⟩] [[],[],[],[],[2],[],[],[],[],[],[]]))) (.reg [Ad 46 32 1,Am 32 46]))))))))) (.reg [Ad 47 24 1,Am 24 47]))))))) (.seq (.reg [Az 8]) (.seq (.reg [
 Af 48 1 1,Al 49 48,An 50 0 49,Au 51 (.mks 1 1 [(.b false)] (.t 50)),Am 9 51]) (.seq (.seq (.reg [Af 52 1 1,Al 53 52,An 54 0 53,Ac 55 0]) (.blk 4 (.loop (.seq (.reg [Aj .lss 56 55 54]) (.seq (.ite (.t 56) .skip (.exit 4)) (.seq (.blk 5 (.seq (.reg [Am 57 55,Am 10 57]) (.seq (.seq (.reg [Am 58 9,Am 59 10,Ai 60 1 58 59,Al 61 60]) (.ite (.t 61) (.exit 5) .skip)) (.seq (.reg [Am 62 9,Am 63 10,Ai 64 1 62 63,⟨none,none,.st 1 (.t 64) (.c (.b true))⟩]) (.seq (.reg [Am 65 10,Au 66 (.bso 1 1 [(.i .i64 0)] [(0,(.t 65))]),Am 11 66]) (.seq (.seq (.reg [Ac 12 0]) (.blk 6 (.loop (.seq (.seq (.reg [Am 67 12,Am 68 11,
 An 69 0 68,Aj .lss 70 67 69]) (.ite (.t 70) .skip (.exit 6))) (.seq (.blk 7 (.seq (.drw [Af 73 1 1,Al 74 73,Am 75 11,Am 76 12,Ai 77 1 75 76,Al 78 77,Ai 79 3 74 78,Ag 80 3 79,Au 81 (.call L1k [.t 80]),An 82 0 81,Ac 83 0] []) (.blk 8 (.loop (.seq (.reg [Aj .lss 84 83 82]) (.seq (.ite (.t 84) .skip (.exit 8)) (.seq (.blk 9 (.seq (.reg [Ai 85 2 81 83,Ag 86 2 85,Au 14 (.alloc [(.i .i64 0),(.i .i64 0)]),As 2 14 86]) (.seq (.reg [Am 87 3,Ag 88 2 14,Au 89 (.call L1n [.t 88]),Au 90 (.lk [1,1] .nil false (.t 87) (.t 89)),An 91 0 90,Ac 92 0]) (.blk 10 (.loop (.seq (.reg [Aj .lss 93 92 91]) (.seq (.ite (.t 93)
 .skip (.exit 10)) (.seq (.blk 11 (.seq (.reg [Ai 94 1 90 92,Al 95 94,Am 16 95]) (.seq (.reg [Am 96 9,Am 97 16,Ai 98 1 96 97,Al 99 98,Au 100 (.un .not (.t 99))]) (.ite (.t 100) (.seq (.reg [Am 101 9,Am 102 16,Ai 103 1 101 102,⟨none,none,.st 1 (.t 103) (.c (.b true))⟩]) (.reg [Am 104 11,Am 105 16,Au 106 (.bsi 1 1 [(.i .i64 0)] [(0,(.t 105))]),Au 107 (.app 1 8 (.t 104) (.t 106)),Am 11 107])) .skip)))) (.reg [Ad 108 92 1,Am 92 108]))))))))) (.reg [Ad 109 83 1,Am 83 109])))))))) (.reg [Am 71 12,Ad 72 71 1,Am 12 72])))))) (.seq (.reg [Am 110 11,Au 111 (.call slices_Sort_int_int [.t 110])]) (.reg [Am 112 8,
 Am 113 11,Au 114 (.bso 1 1 [.nil] [(0,(.t 113))]),Au 115 (.app 1 24 (.t 112) (.t 114)),Am 8 115])))))))) (.reg [Ad 116 55 1,Am 55 116]))))))) (.seq (.reg [Am 117 8,Am 2 117]) .ret))))))))
def L1i.r:List Rr:=[.tmp 2]
abbrev L1i.n:Nat:=118
end Go.Abs
