/- Part of the library on which the proof stands: an abstract machine, its values and its soundness against the model; or what functions of the program do to such values. -/
import Derived.Test.YtnaehggpjfdenaaGreatGoShpD
import Derived.Test.YtnaehggpjfdenaaGreatGoOri
import Derived.Test.YtnaehggpjfdenaaGreatGoRevC
set_option linter.unusedVariables false
set_option linter.unusedSimpArgs false
set_option maxHeartbeats 4000000
namespace Go.Abs
theorem Qn1 (h:List O) (id:Nat):Zi h (.mp id)=match h[id]? with | some (.mp es)=>some es | some (.md es)=>some es | _=>none:=Rfl rfl
attribute [go_sem] Qn1 V.isT
def asE (p:P2 × Int):V × V:=(p.1.enc,.i .i64 p.2)
def fnd (e:P2):List (P2 × Int)->Option (Nat × Int)
 | []=>none
 | (k,n)::r=>if e=k then some (0,n) else (fnd e r).map λp=>(p.1+1,p.2)
theorem veq2 (a b:P2):Zf [1,1] a.enc.cells b.enc.cells=some (decide (a=b)):=by
 cases a;cases b
 simp[Zf,P2.enc,P2.cs,V.cells,Q52,P2.mk.injEq]
 rw[Bool.eq_iff_iff];simp
theorem Qff (e:P2):∀L:List (P2 × Int),Qn [1,1] e.enc (L.map asE)=some ((fnd e L).map λp=>(p.1,.i .i64 p.2))
 | []=>rfl
 | (k,n)::r=>by
   simp only[List.map_cons,asE,Qn,fnd]
   rw[if_pos (by rfl),veq2]
   by_cases h:e=k
   ·simp[h]
   ·simp only[h,decide_false,if_false]
    have:=Qff e r
    rw[this]
    cases fnd e r<;>rfl
theorem Q6x {e:P2}:∀{L:List (P2 × Int)},fnd e L=none↔∀p∈L,p.1≠e
 | []=>by simp[fnd]
 | (k,n)::r=>by
   simp only[fnd]
   by_cases h:e=k
   ·simp[h]
   ·have h':¬ k=e:=λhh=>h hh.symm
    rw[if_neg h,Option.map_eq_none_iff,Q6x (L:=r)]
    simp[h']
theorem Qbw {e:P2} {n:Int}:∀{L:List (P2 × Int)},fnd e L=none->fnd e (L++[(e,n)])=some (L.length,n)
 | [],_=>by simp[fnd]
 | (k,m)::r,h=>by
   simp only[fnd]at h
   by_cases hk:e=k
   ·simp[hk]at h
   ·simp only[hk,if_false,Option.map_eq_none_iff]at h
    simp[fnd,hk,Qbw h]
theorem Wb {e:P2} {i:Nat} {n n':Int}:∀{L:List (P2 × Int)},fnd e L=some (i,n)->L[i]?=some (e,n)/\fnd e (L.set i (e,n'))=some (i,n')
 | [],h=>by simp[fnd]at h
 | (k,m)::r,h=>by
   simp only[fnd]at h
   by_cases hk:e=k
   ·simp[hk]at h;obtain⟨rfl,rfl⟩:=h;simp[fnd,hk]
   ·simp only[hk,if_false,qa,Prod.mk.injEq]at h
    obtain⟨⟨j,n1⟩,hj,rfl,rfl⟩:=h
    have:=Wb (n':=n') hj
    simp[fnd,hk,this.1,this.2]
def Kh (t:T3):List P2:=[⟨t.a,t.b⟩,⟨t.b,t.c⟩,⟨t.c,t.a⟩]
def Zq (t:T3) (k:Nat):List P2:=((Kh t).take k).filter λe=>decide (e.x≠e.y)
def Q8 (t:T3):List P2:=Zq t 3
def B4 (P:Program) (f:FuncId):Prop:=∀t:T3,CallIs P f [t.enc] (psV (Q8 t))
theorem Qpo (p:P2):(∀y∈p.cs,y.isD=true)=True:=by simp[P2.cs,V.isD]
theorem J8 (t:P2) (n:Nat):(∀y∈t.cs,y.cl n=true)=True:=by simp[P2.cs,V.cl,V.cl1,V.cl0]
theorem Qsn (t:T3):Zq t 0=[]:=rfl
theorem Qsh (x y:Int) (l:List P2):(l++[(⟨x,y⟩:P2)]).filter (λe=>decide (e.x≠e.y))=if x=y then l.filter (λe=>decide (e.x≠e.y)) else l.filter (λe=>decide (e.x≠e.y))++[⟨x,y⟩]:=by
 rw[List.filter_append]
 by_cases h:x=y<;>simp[h]
theorem Qsm (t:T3):Zq t 1=if t.a=t.b then Zq t 0 else Zq t 0++[⟨t.a,t.b⟩]:=Qsh t.a t.b []
theorem Qsl (t:T3):Zq t 2=if t.b=t.c then Zq t 1 else Zq t 1++[⟨t.b,t.c⟩]:=Qsh t.b t.c [⟨t.a,t.b⟩]
theorem Qsk (t:T3):Zq t 3=if t.c=t.a then Zq t 2 else Zq t 2++[⟨t.c,t.a⟩]:=Qsh t.c t.a [⟨t.a,t.b⟩,⟨t.b,t.c⟩]
theorem Xi (t:T3) (k:Nat):(Zq t k).length<=3:=by
 refine Nat.le_trans (jc _ _) ?_
 simp[Kh];omega
section
variable {P:Program} (hm:P.follows .mixedOrders=true)
include hm
theorem Wn {f:FuncId} (hf:Q9 P f L0k.c L0k.r L0k.n):B4 P f:=by
 intro t
 refine PureC.is (Q6 hm hf (qh rfl) ?_) rfl
 unfold L0k.c
 simp[go_sem,T3.enc,T3.cs]
 have w1:IntKind.i64.wrap 1=1:=rfl
 have w2:IntKind.i64.wrap 2=2:=rfl
 have w3:IntKind.i64.wrap 3=3:=rfl
 refine Qx [.t 3 2] (α:=Nat) (λk=>k<=3)
  (λk=>⟨[(3,.own 1 ((Zq t k).length+1) 0 (Zq t k).length),(21,.a [.i .i64 t.a,.i .i64 t.b,.i .i64 t.b,.i .i64 t.c,.i .i64 t.c,.i .i64 t.a]),(22,.i .i64 k)],
   [.dead,.arr ((Zq t k).length+1) 2 ((Zq t k).map P2.cs)]⟩)
  (λk=>3-k) 0 (by omega) ?_ ?_
 ·simp[go_sem,Qsn]
 ·intro k hk
  have hl:=Xi t k
  by_cases h3:k=3
  ·subst h3
   simp[go_sem,L0k.r,psV,Q8,Qpo]
  ·have:k=0∨k=1∨k=2:=by omega
   rcases this with rfl | rfl | rfl
   ·have hs:=Qsm t
    generalize hE:Zq t 0=E0 at hs hl
    by_cases h:t.a=t.b
    ·rw[if_pos h]at hs
     simp[go_sem,h,w1,w2,w3]
     exact⟨1,by omega,by omega,by simp[hs],by simp[hs],by simp[J8]⟩
    ·rw[if_neg h]at hs
     simp[go_sem,h,w1,w2,w3]
     exact⟨by omega,1,by omega,by omega,by simp[hs],by simp[hs,pcs,or_imp,forall_and,V.cl,V.cl1,V.cl0]⟩
   ·have hs:=Qsl t
    generalize hE:Zq t 1=E0 at hs hl
    by_cases h:t.b=t.c
    ·rw[if_pos h]at hs
     simp[go_sem,h,w1,w2,w3]
     exact⟨2,by omega,by omega,by simp[hs],by simp[hs],by simp[J8]⟩
    ·rw[if_neg h]at hs
     simp[go_sem,h,w1,w2,w3]
     exact⟨by omega,2,by omega,by omega,by simp[hs],by simp[hs,pcs,or_imp,forall_and,V.cl,V.cl1,V.cl0]⟩
   ·have hs:=Qsk t
    generalize hE:Zq t 2=E0 at hs hl
    by_cases h:t.c=t.a
    ·rw[if_pos h]at hs
     simp[go_sem,h,w1,w2,w3]
     exact⟨3,by omega,by omega,by simp[hs],by simp[hs],by simp[J8]⟩
    ·rw[if_neg h]at hs
     simp[go_sem,h,w1,w2,w3]
     exact⟨by omega,3,by omega,by omega,by simp[hs],by simp[hs,pcs,or_imp,forall_and,V.cl,V.cl1,V.cl0]⟩
end
def Qd (l:List T3):List P2:=l.flatMap Q8
def Q1t (l:List T3):Bool:=decide (Qd l).Nodup
def CohC (P:Program) (f:FuncId):Prop:=∀l:List T3,l.length<=1000000->CallIs P f [tsV l] (.b (Q1t l))
def asV (p:P2 × Int):V × V:=(.a [.i .i64 p.1.x,.i .i64 p.1.y],.i .i64 p.2)
theorem Jq (e:P2) (L:List (P2 × Int)):Qn [1,1] (.a [.i .i64 e.x,.i .i64 e.y]) (L.map asV)=some ((fnd e L).map λp=>(p.1,.i .i64 p.2)):=Qff e L
def Xg (S:List P2):List (P2 × Int):=S.map λe=>(e,1)
theorem Es {e:P2} {S:List P2} (h:e∉S):fnd e (Xg S)=none:=by
 rw[Q6x]
 intro p hp
 simp only[Xg,qo]at hp
 obtain⟨a,ha,rfl⟩:=hp
 rintro rfl
 exact h ha
theorem Er {e:P2}:∀{S:List P2},e∈S->∃i,fnd e (Xg S)=some (i,1)
 | [],h=>by simp at h
 | a::S,h=>by
   by_cases ha:e=a
   ·exact⟨0,by simp[Xg,fnd,ha]⟩
   ·have:e∈S:=by simpa[ha]using h
    obtain⟨i,hi⟩:=Er this
    exact⟨i+1,by simp only[Xg,List.map_cons,fnd,if_neg ha];rw[show S.map (λe=>(e,(1:Int)))=Xg S from rfl,hi];rfl⟩
theorem Qpq (S:List P2) (e:P2):Xg (S++[e])=Xg S++[(e,1)]:=by simp[Xg]
theorem Xk (L:List (P2 × Int)) (n:Nat):∀(a b:V) (x:P2) (y:Int),(x,y)∈L->asV (x,y)=(a,b)->V.cl n a=true/\V.cl n b=true:=by
 rintro _ _ x y _ h
 simp only[asV,Prod.mk.injEq]at h
 obtain⟨rfl,rfl⟩:=h
 exact⟨rfl,rfl⟩
theorem X5 {l:List T3} {k:Nat} {t:T3} (h:l[k]?=some t):Qd (l.take (k+1))=Qd (l.take k)++Q8 t:=by
 simp[Qd,List.take_add_one,h]
theorem Q2m (l:List T3) (k:Nat):(Qd (l.take k)).length<=3*k:=by
 induction k with
 | zero=>simp[Qd]
 | succ k ih =>
   by_cases hk:k<l.length
   ·rw[X5 (q9 hk),j7]
    have:(Q8 l[k]).length<=3:=Xi _ 3
    omega
   ·rw[qe (by omega)]at ih ⊢;omega
theorem coh_pre {l:List T3} {k:Nat} {S:List P2} (h:S <+: Q8 ((l[k]?).getD ⟨0,0,0⟩)) (hk:k<l.length):Qd (l.take k)++S <+: Qd l:=by
 have h1:l[k]?=some l[k]:=q9 hk
 rw[h1]at h
 obtain⟨r,hr⟩:=h
 have h2:Qd l=Qd (l.take (k+1))++Qd (l.drop (k+1)):=by
  rw[Qd,Qd,Qd,<- List.flatMap_append,List.take_append_drop]
 rw[h2,X5 h1,show Q8 l[k]=S++r from hr.symm]
 exact⟨r++Qd (l.drop (k+1)),by simp⟩
section
variable {P:Program} (hm:P.follows .mixedOrders=true)
include hm
theorem I9 {f fe:FuncId} (hf:Q9 P f (L0j.c fe) L0j.r L0j.n) (he:B4 P fe):CohC P f:=by
 intro l hl
 refine PureC.is (Q6 hm hf (qh rfl) ?_) rfl
 unfold L0j.c
 simp[go_sem,tsV]
 refine Qc (α:=Nat) (λk=>k<=l.length/\(Qd (l.take k)).Nodup)
  (λk=>⟨[(3,.mp 0),(9,tsV l),(10,.i .i64 l.length),(11,.i .i64 k)],[.mp ((Xg (Qd (l.take k))).map asV)]⟩)
  (λk=>l.length-k) 0 ⟨by omega,by simp[Qd]⟩ ?_ ?_
 ·simp[go_sem,tsV,Qd,Xg]
 ·rintro k ⟨hk,hnd⟩
  by_cases hkl:k=l.length
  ·subst hkl
   simp[go_sem,tsV,L0j.r]
   rw[qi]at hnd
   simp[Q1t,hnd]
  ·have hlt:k<l.length:=by omega
   have hp:l[k]?=some l[k]:=q9 hlt
   generalize l[k]=t at hp
   obtain⟨_,hp'⟩:=q8.1 hp
   simp[go_sem,tsV,hlt,hp',tcs]
   refine Q4 (he t) ?_
   have hlen:(Q8 t).length<=3:=Xi t 3
   simp[go_sem,psV]
   refine Qc (α:=Nat) (λj=>j<=(Q8 t).length/\(Qd (l.take k)++(Q8 t).take j).Nodup)
    (λj=>⟨[(3,.mp 0),(9,tsV l),(10,.i .i64 l.length),(11,.i .i64 k),(16,psV (Q8 t)),(17,.i .i64 (Q8 t).length),(18,.i .i64 j)],[.mp ((Xg (Qd (l.take k)++(Q8 t).take j)).map asV)]⟩)
    (λj=>(Q8 t).length-j) 0 ⟨by omega,by simpa using hnd⟩ ?_ ?_
   ·simp[go_sem,tsV,psV]
    exact Xk _ 1
   ·rintro j ⟨hj,hnd2⟩
    by_cases hjl:j=(Q8 t).length
    ·subst hjl
     simp (disch:=omega) [go_sem,tsV,psV,Q0]
     rw[qi]at hnd2
     exact⟨k+1,⟨by omega,by rw[X5 hp];exact hnd2⟩,by omega,by omega,by rw[X5 hp],Xk _ 1⟩
    ·have hjlt:j<(Q8 t).length:=by omega
     have hq:(Q8 t)[j]?=some (Q8 t)[j]:=q9 hjlt
     have htk:(Q8 t).take (j+1)=(Q8 t).take j++[(Q8 t)[j]]:=by rw[List.take_add_one,hq];rfl
     generalize (Q8 t)[j]=e at hq htk
     obtain⟨_,hq'⟩:=q8.1 hq
     have hpre:=coh_pre (l:=l) (k:=k) (S:=(Q8 t).take (j+1)) (by rw[hp];exact List.take_prefix _ _) hlt
     rw[htk,<- j6]at hpre
     generalize hS:Qd (l.take k)++(Q8 t).take j=S at hnd2 hpre
     by_cases hmem:e∈S
     ·obtain⟨i,hi⟩:=Er hmem
      have h1:=Jq e (Xg S)
      rw[hi]at h1
      simp only[Option.map_some]at h1
      have h3:Qn [1,1] (V.a [V.i IntKind.i64 e.x,V.i IntKind.i64 e.y]) ((List.map asV (Xg S)).set i (V.a [V.i .i64 e.x,V.i .i64 e.y],V.i .i64 2))=some (some (i,.i .i64 2)):=by
       have:=Jq e ((Xg S).set i (e,2))
       rw[(Wb (n':=2) hi).2,List.map_set]at this
       exact this
      have hil:i<(Xg S).length:=(q8.1 (Wb (n':=2) hi).1).1
      have hil':i<(List.map asV (Xg S)).length:=by simpa using hil
      have w2:IntKind.i64.wrap 2=2:=rfl
      simp[go_sem,psV,hjlt,hq',pcs,h1,h3,w2,qm hil',List.set_set,L0j.r]
      unfold Q1t
      rw[decide_eq_false]
      intro hall
      have:=hall.sublist hpre.sublist
      rw[List.nodup_append]at this
      exact this.2.2 e hmem e (by simp) rfl
     ·have h1:=Jq e (Xg S)
      rw[Es hmem]at h1
      simp only[Option.map_none]at h1
      have w1:IntKind.i64.wrap 1=1:=rfl
      have h3:Qn [1,1] (V.a [V.i IntKind.i64 e.x,V.i IntKind.i64 e.y]) (List.map asV (Xg S)++[(V.a [V.i .i64 e.x,V.i .i64 e.y],V.i .i64 1)])=some (some ((Xg S).length,.i .i64 1)):=by
       have:=Jq e (Xg S++[(e,1)])
       rw[Qbw (Es hmem),qx]at this
       exact this
      simp[go_sem,psV,hjlt,hq',pcs,h1,h3,w1]
      have hS1:Qd (l.take k)++(Q8 t).take (j+1)=S++[e]:=by rw[htk,<- j6,hS]
      refine⟨j+1,⟨by omega,?_⟩,by omega,⟨.inr rfl,Q0 (by omega) (by omega)⟩,?_,Xk _ 1⟩
      ·rw[hS1,List.nodup_append]
       exact⟨hnd2,by simp,λa ha b hb=>by simp at hb;subst hb;rintro rfl;exact hmem ha⟩
      ·rw[hS1,Qpq,qx];rfl
end
def L2v.c (L0d L2w:FuncId):C :=(.seq (.reg [Au 1 (.box (.t 0)),Au 2 (.mv (.c .mnil))]) (.seq (.reg [Au 8 (.mkm none),Am 3 8]) (.seq (.seq (.reg [Ag 9 2 1,Au 10 (.call L0d [.t 9]),Ak .neq 11 10 0]) (.ite (.t 11) (.seq (.reg [Am 12 3,Am 2 12]) .ret) .skip)) (.seq (.seq (.reg [Af 13 1 1,Al 14 13,An 15 0 14,Ac 16 0]) (.blk 0 (.loop (.seq (.reg [Aj .lss 17 16 15]) (.seq (.ite (.t 17) .skip (.exit 0)) (.seq (.blk 1 (.seq (.reg [Ai 18 3 14 16,Ag 19 3 18,Au 5 (.alloc [(.i .i64 0),(.i .i64 0),(.i .i64 0)]),As 3 5 19]) (.seq (.reg [Ag 20 3 5,Au 21 (.call L2w [.t 20]),An 22 0 21,Ac 23 0]) (.blk 2 (.loop (.seq
 (.reg [Aj .lss 24 23 22]) (.seq (.ite (.t 24) .skip (.exit 2)) (.seq (.blk 3 (.seq (.reg [Ai 25 2 21 23,Ag 26 2 25,Au 7 (.alloc [(.i .i64 0),(.i .i64 0)]),As 2 7 26]) (.reg [Am 27 3,Ag 28 2 7,⟨none,none,.eqa [1,1] false (.t 28) (.t 28)⟩,Au 29 (.lk [1,1] (.i .i64 0) false (.t 27) (.t 28)),Ad 30 29 1,Au 31 (.ment [1,1] (.i .i64 0) (.t 27) (.t 28)),Ax1 32 1 31,⟨none,none,.est (.t 27) (.t 32) (.t 30)⟩]))) (.reg [Ad 33 23 1,Am 23 33]))))))))) (.reg [Ad 34 16 1,Am 16 34]))))))) (.seq (.reg [Am 35 3,Am 2 35]) .ret)))))
def L2v.r:List Rr:=[.tmp 2]
abbrev L2v.n:Nat:=36
def L2y.c:C :=(.seq (.reg [Au 1 (.box (.t 0)),Au 2 (.alloc [(.i .i64 0),(.i .i64 0)])]) (.seq (.reg [Af 3 1 1,Al 4 3,Af 5 0 1,Al 6 5,Au 7 (.build [(.i .i64 0),(.i .i64 0)] [(0,1,(.t 4)),(1,1,(.t 6))]),As 2 2 7]) .ret))
def L2y.r:List Rr:=[.cell 2 (some 2)]
abbrev L2y.n:Nat:=8
def L2w.c:C :=(.seq (.reg [Au 1 (.box (.t 0)),Az 2]) (.seq (.reg [Az 3]) (.seq (.seq (.reg [Af 6 0 1,Al 7 6,Af 8 1 1,Al 9 8,Au 10 (.build [(.i .i64 0),(.i .i64 0)] [(0,1,(.t 7)),(1,1,(.t 9))]),Af 11 1 1,Al 12 11,Af 13 2 1,Al 14 13,Au 15 (.build [(.i .i64 0),(.i .i64 0)] [(0,1,(.t 12)),(1,1,(.t 14))]),Af 16 2 1,Al 17 16,Af 18 0 1,Al 19 18,Au 20 (.build [(.i .i64 0),(.i .i64 0)] [(0,1,(.t 17)),(1,1,(.t 19))]),Au 21 (.build [(.i .i64 0),(.i .i64 0),(.i .i64 0),(.i .i64 0),(.i .i64 0),(.i .i64 0)] [(0,2,(.t 10)),(2,2,(.t 15)),(4,2,(.t 20))]),Ac 22 0]) (.blk 0 (.loop (.seq (.reg [Ak .lss 23 22 3]) (.seq
 (.ite (.t 23) .skip (.exit 0)) (.seq (.blk 1 (.seq (.reg [Au 24 (.ix 3 2 (some 2) (.t 21) (.t 22)),Au 5 (.alloc [(.i .i64 0),(.i .i64 0)]),As 2 5 24]) (.seq (.reg [Af 25 0 5,Al 26 25,Af 27 1 5,Al 28 27,Aj .neq 29 26 28]) (.ite (.t 29) (.reg [Am 30 3,Ag 31 2 5,Au 32 (.bsi 2 1 [(.i .i64 0),(.i .i64 0)] [(0,(.t 31))]),Au 33 (.app 2 16 (.t 30) (.t 32)),Am 3 33]) .skip)))) (.reg [Ad 34 22 1,Am 22 34]))))))) (.seq (.reg [Am 35 3,Am 2 35]) .ret))))
def L2w.r:List Rr:=[.tmp 2]
abbrev L2w.n:Nat:=36
def L2z.c:C :=(.seq (.reg [Au 1 (.box (.t 0)),Au 2 (.alloc [(.i .i64 0),(.i .i64 0)])]) (.seq (.reg [Af 3 0 1,Al 4 3,Af 5 1 1,Al 6 5,Au 7 (.mn [.t 4,.t 6]),Af 8 0 1,Al 9 8,Af 10 1 1,Al 11 10,Au 12 (.mx [.t 9,.t 11]),Au 13 (.build [(.i .i64 0),(.i .i64 0)] [(0,1,(.t 7)),(1,1,(.t 12))]),As 2 2 13]) .ret))
def L2z.r:List Rr:=[.cell 2 (some 2)]
abbrev L2z.n:Nat:=14
def L2x.c (L00 L01:FuncId):C :=(.seq (.reg [Au 2 (.box (.t 0)),Au 3 (.box (.t 1)),Ac 4 0]) (.seq (.drw [Af 5 0 2,Al 6 5,Af 7 0 3,Al 8 7,Au 9 (.call L00 [.t 6,.t 8]),Af 10 1 2,Al 11 10,Af 12 1 3,Al 13 12,Au 14 (.call L00 [.t 11,.t 13]),Au 15 (.bsi 1 2 [(.i .i64 0)] [(0,(.t 9)),(1,(.t 14))]),Au 16 (.call L01 [.t 15]),Am 4 16] [[],[],[],[],[],[4],[4],[4],[4],[],[],[],[]]) .ret))
def L2x.r:List Rr:=[.tmp 4]
abbrev L2x.n:Nat:=17
def L2s.c (L2v L2y slices_SortFunc_api_Edge_api_Edge L2x:FuncId):C :=(.seq (.reg [Au 1 (.box (.t 0)),Az 2]) (.seq (.reg [Ag 7 2 1,Au 8 (.call L2v [.t 7]),Am 3 8]) (.seq (.reg [Az 4]) (.seq (.seq (.reg [Am 9 3,Au 10 (.mrng (.t 9))]) (.blk 0 (.loop (.seq (.reg [Au 11 (.mnx (.t 10)),Ax1 12 0 11]) (.seq (.ite (.t 12) .skip (.exit 0)) (.blk 1 (.seq (.reg [Au 13 (.men (.t 10)),Ax1 14 0 13,Ax1 15 1 13,Au 5 (.alloc [(.i .i64 0),(.i .i64 0)]),As 2 5 14,Am 6 15]) (.seq (.reg [Am 16 6,Am 17 3,Ag 18 2 5,Au 19 (.call L2y [.t 18]),Au 20 (.lk [1,1] (.i .i64 0) false (.t 17) (.t 19)),Aj .gtr 21 16 20]) (.ite (.t 21)
 (.reg [Am 22 4,Ag 23 2 5,Au 24 (.bsi 2 1 [(.i .i64 0),(.i .i64 0)] [(0,(.t 23))]),Au 25 (.app 2 16 (.t 22) (.t 24)),Am 4 25]) .skip))))))))) (.seq (.reg [Am 26 4,Au 27 (.call slices_SortFunc_api_Edge_api_Edge [.t 26,(.c (.f L2x []))])]) (.seq (.reg [Am 28 4,Am 2 28]) .ret))))))
def L2s.r:List Rr:=[.tmp 2]
abbrev L2s.n:Nat:=29
def L2t.c (L0d L2s:FuncId):C :=(.seq (.reg [Au 1 (.box (.t 0)),Ab 2 false]) (.seq (.reg [Ag 3 2 1,Au 4 (.call L0d [.t 3]),Ak .eql 5 4 0,Am 6 5,Av 7 6 (.ld (some 2) (.t 1)),Av 8 6 (.call L2s [.t 7]),Av 9 6 (.len 0 (.t 8)),Av 10 6 (.bin .eql (.t 9) (.c (.i .i64 0))),Ap 11 6 10,Am 2 11]) .ret))
def L2t.r:List Rr:=[.tmp 2]
abbrev L2t.n:Nat:=12
def L2u.c (L0d L2w L2z slices_Sort_int_int:FuncId):C :=(.seq (.reg [Au 1 (.box (.t 0)),Az 2]) (.seq (.seq (.reg [Ag 17 2 1,Au 18 (.call L0d [.t 17]),Ak .neq 19 18 0]) (.ite (.t 19) (.seq (.reg [Az 2]) .ret) .skip)) (.seq (.reg [Au 20 (.mkm none),Am 3 20]) (.seq (.seq (.reg [Af 21 1 1,Al 22 21,An 23 0 22,Ac 24 0]) (.blk 0 (.loop (.seq (.reg [Aj .lss 25 24 23]) (.seq (.ite (.t 25) .skip (.exit 0)) (.seq (.blk 1 (.seq (.reg [Am 26 24,Ai 27 3 22 24,Ag 28 3 27,Au 5 (.alloc [(.i .i64 0),(.i .i64 0),(.i .i64 0)]),Am 4 26,As 3 5 28]) (.seq (.reg [Ag 29 3 5,Au 30 (.call L2w [.t 29]),An 31 0 30,Ac 32 0])
 (.blk 2 (.loop (.seq (.reg [Aj .lss 33 32 31]) (.seq (.ite (.t 33) .skip (.exit 2)) (.seq (.blk 3 (.seq (.reg [Ai 34 2 30 32,Ag 35 2 34,Au 7 (.alloc [(.i .i64 0),(.i .i64 0)]),As 2 7 35]) (.drw [Am 36 3,Ag 37 2 7,Au 38 (.call L2z [.t 37]),Am 39 3,Ag 40 2 7,Au 41 (.call L2z [.t 40]),Au 42 (.lk [1,1] .nil false (.t 39) (.t 41)),Am 43 4,Au 44 (.bsi 1 1 [(.i .i64 0)] [(0,(.t 43))]),Au 45 (.app 1 8 (.t 42) (.t 44)),⟨none,none,.mup [1,1] (.t 36) (.t 38) (.t 45)⟩] [[],[],[],[],[2],[],[],[],[],[],[]]))) (.reg [Ad 46 32 1,Am 32 46]))))))))) (.reg [Ad 47 24 1,Am 24 47]))))))) (.seq (.reg [Az 8]) (.seq (.reg [
 Af 48 1 1,Al 49 48,An 50 0 49,Au 51 (.mks 1 1 [(.b false)] (.t 50)),Am 9 51]) (.seq (.seq (.reg [Af 52 1 1,Al 53 52,An 54 0 53,Ac 55 0]) (.blk 4 (.loop (.seq (.reg [Aj .lss 56 55 54]) (.seq (.ite (.t 56) .skip (.exit 4)) (.seq (.blk 5 (.seq (.reg [Am 57 55,Am 10 57]) (.seq (.seq (.reg [Am 58 9,Am 59 10,Ai 60 1 58 59,Al 61 60]) (.ite (.t 61) (.exit 5) .skip)) (.seq (.reg [Am 62 9,Am 63 10,Ai 64 1 62 63,⟨none,none,.st 1 (.t 64) (.c (.b true))⟩]) (.seq (.reg [Am 65 10,Au 66 (.bso 1 1 [(.i .i64 0)] [(0,(.t 65))]),Am 11 66]) (.seq (.seq (.reg [Ac 12 0]) (.blk 6 (.loop (.seq (.seq (.reg [Am 67 12,Am 68 11,
 An 69 0 68,Aj .lss 70 67 69]) (.ite (.t 70) .skip (.exit 6))) (.seq (.blk 7 (.seq (.drw [Af 73 1 1,Al 74 73,Am 75 11,Am 76 12,Ai 77 1 75 76,Al 78 77,Ai 79 3 74 78,Ag 80 3 79,Au 81 (.call L2w [.t 80]),An 82 0 81,Ac 83 0] []) (.blk 8 (.loop (.seq (.reg [Aj .lss 84 83 82]) (.seq (.ite (.t 84) .skip (.exit 8)) (.seq (.blk 9 (.seq (.reg [Ai 85 2 81 83,Ag 86 2 85,Au 14 (.alloc [(.i .i64 0),(.i .i64 0)]),As 2 14 86]) (.seq (.reg [Am 87 3,Ag 88 2 14,Au 89 (.call L2z [.t 88]),Au 90 (.lk [1,1] .nil false (.t 87) (.t 89)),An 91 0 90,Ac 92 0]) (.blk 10 (.loop (.seq (.reg [Aj .lss 93 92 91]) (.seq (.ite (.t 93)
 .skip (.exit 10)) (.seq (.blk 11 (.seq (.reg [Ai 94 1 90 92,Al 95 94,Am 16 95]) (.seq (.reg [Am 96 9,Am 97 16,Ai 98 1 96 97,Al 99 98,Au 100 (.un .not (.t 99))]) (.ite (.t 100) (.seq (.reg [Am 101 9,Am 102 16,Ai 103 1 101 102,⟨none,none,.st 1 (.t 103) (.c (.b true))⟩]) (.reg [Am 104 11,Am 105 16,Au 106 (.bsi 1 1 [(.i .i64 0)] [(0,(.t 105))]),Au 107 (.app 1 8 (.t 104) (.t 106)),Am 11 107])) .skip)))) (.reg [Ad 108 92 1,Am 92 108]))))))))) (.reg [Ad 109 83 1,Am 83 109])))))))) (.reg [Am 71 12,Ad 72 71 1,Am 12 72])))))) (.seq (.reg [Am 110 11,Au 111 (.call slices_Sort_int_int [.t 110])]) (.reg [Am 112 8,
 Am 113 11,Au 114 (.bso 1 1 [.nil] [(0,(.t 113))]),Au 115 (.app 1 24 (.t 112) (.t 114)),Am 8 115])))))))) (.reg [Ad 116 55 1,Am 55 116]))))))) (.seq (.reg [Am 117 8,Am 2 117]) .ret))))))))
def L2u.r:List Rr:=[.tmp 2]
abbrev L2u.n:Nat:=118
theorem Q46 {α:Type} {p:List α->Prop} (h0:p []) (h1:∀E x,p E->p (E++[x])) (E:List α):p E:=by
 rw[<- E.reverse_reverse]
 induction E.reverse with
 | nil=>exact h0
 | cons x l ih=>rw[List.reverse_cons];exact h1 _ _ ih
def Qfy (L:List (P2 × Int)) (e:P2):List (P2 × Int) :=
 match fnd e L with
 | some (i,n)=>L.set i (e,n+1)
 | none=>L++[(e,1)]
def Yj (E:List P2):List (P2 × Int):=E.foldl Qfy []
theorem W2 (E:List P2) (e:P2):Yj (E++[e])=Qfy (Yj E) e:=by simp[Yj]
def val (e:P2) (L:List (P2 × Int)):Int:=match fnd e L with | some (_,n)=>n | none=>0
theorem Q6w {e e':P2} (hne:e'≠e) {n':Int}:∀{L:List (P2 × Int)} {i:Nat} {n:Int},fnd e L=some (i,n)->fnd e' (L.set i (e,n'))=fnd e' L
 | [],i,n,h=>by simp[fnd]at h
 | (k,m)::r,i,n,h=>by
   simp only[fnd]at h
   by_cases hk:e=k
   ·simp[hk]at h
    obtain⟨rfl,rfl⟩:=h
    subst hk
    simp[fnd,hne]
   ·simp only[hk,if_false,qa,Prod.mk.injEq]at h
    obtain⟨⟨j,n1⟩,hj,rfl,rfl⟩:=h
    have:=Q6w (n':=n') hne hj
    simp only[List.set_cons_succ,fnd,this]
theorem Q6y {e e':P2} (hne:e'≠e) {n:Int}:∀{L:List (P2 × Int)},fnd e' (L++[(e,n)])=fnd e' L
 | []=>by simp[fnd,hne]
 | (k,m)::r=>by
   simp only[List.cons_append,fnd,Q6y hne]
theorem Qoi (L:List (P2 × Int)) (e e':P2):val e' (Qfy L e)=val e' L+if e'=e then 1 else 0:=by
 unfold Qfy
 cases h:fnd e L with
 | none =>
   simp only
   by_cases he:e'=e
   ·subst he
    simp only[val,Qbw h,h,if_true];omega
   ·simp only[val,Q6y he,he,if_false];omega
 | some p =>
   obtain⟨i,n⟩:=p
   simp only
   by_cases he:e'=e
   ·subst he
    simp only[val,(Wb (n':=n+1) h).2,h,if_true]
   ·simp only[val,Q6w he h,he,if_false];omega
theorem Q0f (E:List P2) (e:P2):val e (Yj E)=E.count e:=by
 refine Q46 (p:=λE=>val e (Yj E)=E.count e) ?_ ?_ E
 ·rfl
 ·intro E x ih
  rw[W2,Qoi,ih,List.count_append,List.count_singleton]
  by_cases h:e=x
  ·subst h;simp
  ·have:¬ x=e:=λhh=>h hh.symm
   simp[h,this]
theorem Qqc {L:List (P2 × Int)} {i:Nat} {e:P2} {n n':Int} (h:L[i]?=some (e,n)):(L.set i (e,n')).map Prod.fst=L.map Prod.fst:=by
 rw[List.map_set]
 apply qy
 intro j
 by_cases hj:i=j
 ·subst hj
  have:=(q8.1 h).1
  rw[qm (by simpa using this)]
  simp[h]
 ·rw[qt hj]
theorem Qma (L:List (P2 × Int)) (e:P2):(Qfy L e).map Prod.fst=if (fnd e L).isSome then L.map Prod.fst else L.map Prod.fst++[e]:=by
 unfold Qfy
 cases h:fnd e L with
 | none=>simp
 | some p =>
   obtain⟨i,n⟩:=p
   simp only[Option.isSome_some,if_true]
   exact Qqc (Wb (n':=n) h).1
theorem fnd_keys {e:P2} {L:List (P2 × Int)}:fnd e L=none↔e∉L.map Prod.fst:=by
 rw[Q6x]
 constructor
 ·rintro h hm
  obtain⟨p,hp,rfl⟩:=qo.1 hm
  exact h p hp rfl
 ·rintro h p hp rfl
  exact h (jt hp)
theorem W3 (E:List P2):((Yj E).map Prod.fst).Nodup/\∀e,e∈(Yj E).map Prod.fst↔e∈E:=by
 refine Q46 (p:=λE=>((Yj E).map Prod.fst).Nodup/\∀e,e∈(Yj E).map Prod.fst↔e∈E) ?_ ?_ E
 ·simp[Yj]
 ·intro E x ih
  rw[W2,Qma]
  cases h:fnd x (Yj E) with
  | none =>
    have h':=fnd_keys.1 h
    simp only[Option.isSome_none,Bool.false_eq_true,if_false]
    refine⟨?_,λe=>?_⟩
    ·rw[List.nodup_append]
     exact⟨ih.1,by simp,λa ha b hb=>by simp at hb;subst hb;rintro rfl;exact h' ha⟩
    ·rw[qg,ih.2,qg]
  | some p =>
    have h':x∈(Yj E).map Prod.fst:=jb λhh=>by rw[fnd_keys.2 hh]at h;simp at h
    simp only[Option.isSome_some,if_true]
    refine⟨ih.1,λe=>?_⟩
    rw[ih.2,qg]
    constructor
    ·exact .inl
    ·rintro (h2 | h2)
     ·exact h2
     ·simp at h2;subst h2;exact(ih.2 e).1 h'
theorem Wc:∀{L:List (P2 × Int)} {i:Nat} {e:P2} {n:Int},(L.map Prod.fst).Nodup->L[i]?=some (e,n)->fnd e L=some (i,n)
 | [],i,e,n,_,h=>by simp at h
 | (k,m)::r,0,e,n,_,h=>by simp at h;obtain⟨rfl,rfl⟩:=h;simp[fnd]
 | (k,m)::r,i+1,e,n,hn,h=>by
   simp only[List.map_cons,List.nodup_cons]at hn
   simp only[List.getElem?_cons_succ]at h
   have hk:¬ e=k:=by
    rintro rfl
    exact hn.1 (qo.2 ⟨(e,n),qb h,rfl⟩)
   simp[fnd,hk,Wc hn.2 h]
theorem Q8x {E:List P2} {i:Nat} {e:P2} {n:Int} (h:(Yj E)[i]?=some (e,n)):e∈E/\n=E.count e:=by
 have hk:=W3 E
 refine⟨(hk.2 e).1 (qo.2 ⟨(e,n),qb h,rfl⟩),?_⟩
 have:=Q0f E e
 rw[val,Wc hk.1 h]at this
 exact this
theorem Qop {E:List P2} {e:P2} (h:e∈E):∃i:Nat,(Yj E)[i]?=some (e,(E.count e:Int)):=by
 obtain⟨p,hp,rfl⟩:=qo.1 (((W3 E).2 e).2 h)
 obtain⟨i,hi⟩:=qq hp
 refine⟨i,?_⟩
 rw[hi]
 have:=(Q8x (e:=p.1) (n:=p.2) hi).2
 rw[<- this]
def left (n:Nat) (seen:List Nat):Nat:=((List.range n).filter λi=>!seen.contains i).length
theorem Qjp {n i:Nat} {seen:List Nat} (hi:i<n) (hs:i∉seen):left n (seen++[i])<left n seen:=by
 have h:(List.range n).filter (λj=>!(seen++[i]).contains j)=((List.range n).filter λj=>!seen.contains j).filter (λj=>!(j == i)):=by
  rw[List.filter_filter]
  congr 1
  funext j
  by_cases h1:j∈seen<;>by_cases h2:j=i<;>simp[h1,h2]
 unfold left
 rw[h,List.length_filter_lt_length_iff_exists]
 exact⟨i,by simp[hi,hs],by simp⟩
def P2.lt (a b:P2):Prop:=a.x<b.x∨(a.x=b.x/\a.y<b.y)
instance (a b:P2):Decidable (P2.lt a b):=by unfold P2.lt;infer_instance
theorem P2.lt_irrefl (a:P2):¬ P2.lt a a:=by unfold P2.lt;omega
theorem P2.lt_trans {a b c:P2} (h1:P2.lt a b) (h2:P2.lt b c):P2.lt a c:=by unfold P2.lt at *;omega
theorem P2.lt_total {a b:P2} (h:¬ P2.lt a b) (h':¬ P2.lt b a):a=b:=by
 unfold P2.lt at *
 have h1:a.x=b.x:=by omega
 have h2:a.y=b.y:=by omega
 cases a;cases b;simp_all
theorem P2.lt_asymm {a b:P2} (h1:P2.lt a b):¬ P2.lt b a:=by unfold P2.lt at *;omega
def asc (l:List P2):Prop:=l.Pairwise P2.lt
theorem Qcm:∀{l1 l2:List P2},asc l1->asc l2->(∀a,a∈l1↔a∈l2)->l1=l2
 | [],[],_,_,_=>rfl
 | [],y::l2,_,_,h=>by have:=(h y).2 (by simp);simp at this
 | x::l1,[],_,_,h=>by have:=(h x).1 (by simp);simp at this
 | x::l1,y::l2,h1,h2,h=>by
   have p1:=jd.1 h1
   have p2:=jd.1 h2
   have hxy:x=y:=by
    rcases List.mem_cons.1 ((h x).1 (by simp)) with h3 | h3
    ·exact h3
    ·rcases List.mem_cons.1 ((h y).2 (by simp)) with h4 | h4
     ·exact h4.symm
     ·exact absurd (p2.1 x h3) (P2.lt_asymm (p1.1 y h4))
   subst hxy
   rw[Qcm p1.2 p2.2 λa=>?_]
   constructor
   ·intro ha
    rcases List.mem_cons.1 ((h a).1 (by simp[ha])) with h3 | h3
    ·subst h3;exact absurd (p1.1 a ha) (P2.lt_irrefl a)
    ·exact h3
   ·intro ha
    rcases List.mem_cons.1 ((h a).2 (by simp[ha])) with h3 | h3
    ·subst h3;exact absurd (p2.1 a ha) (P2.lt_irrefl a)
    ·exact h3
def Qew (e:P2):List P2->List P2
 | []=>[e]
 | x::l=>if e=x then x::l else if P2.lt e x then e::x::l else x::Qew e l
theorem mem_insP {e a:P2}:∀{l:List P2},a∈Qew e l↔a=e∨a∈l
 | []=>by simp[Qew]
 | x::l=>by
   simp only[Qew]
   split
   ·rename_i h;subst h;simp
   ·split
    ·simp
    ·simp[mem_insP];constructor<;>(rintro (h | h | h)<;>simp[h])
theorem Qev {e:P2}:∀{l:List P2},asc l->asc (Qew e l)
 | [],_=>by simp[Qew,asc]
 | x::l,h=>by
   have hc:=jd.1 h
   simp only[Qew]
   split
   ·exact h
   ·split
    ·rename_i h1 h2
     refine jd.2 ⟨λb hb=>?_,h⟩
     rcases List.mem_cons.1 hb with rfl | hb
     ·exact h2
     ·exact P2.lt_trans h2 (hc.1 b hb)
    ·rename_i h1 h2
     refine jd.2 ⟨λb hb=>?_,Qev hc.2⟩
     rcases mem_insP.1 hb with rfl | hb
     ·exact jb λh3=>h1 (P2.lt_total h2 h3)
     ·exact hc.1 b hb
def Uh (l:List P2):List P2:=l.foldr Qew []
theorem E9 (l:List P2):asc (Uh l):=by
 induction l with
 | nil=>simp[Uh,asc]
 | cons x l ih=>exact Qev ih
theorem Ur {l:List P2} {a:P2}:a∈Uh l↔a∈l:=by
 induction l with
 | nil=>simp[Uh]
 | cons x l ih=>simp only[Uh,List.foldr_cons,mem_insP,List.mem_cons];rw[<- ih];rfl
theorem Qfv {ys xs:List P2} (hp:ys.Perm xs) (hn:xs.Nodup) (hs:ys.Pairwise λa b=>¬ P2.lt b a):ys=Uh xs:=by
 refine Qcm ?_ (E9 xs) λa=>by rw[hp.mem_iff,Ur]
 have hn':ys.Nodup:=hp.symm.nodup hn
 exact(List.Pairwise.and hs hn').imp λh=>jb λh3=>h.2 (P2.lt_total h3 h.1)
end Go.Abs
