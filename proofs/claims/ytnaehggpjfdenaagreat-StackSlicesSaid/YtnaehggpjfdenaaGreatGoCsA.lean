/- Part of the library on which the proof stands: an abstract machine, its values and its soundness against the model; or what functions of the program do to such values. -/
import Derived.Test.YtnaehggpjfdenaaGreatGoMap
import Derived.Test.YtnaehggpjfdenaaGreatGoRevC
import Derived.Test.YtnaehggpjfdenaaGreatAbsCP
set_option linter.unusedVariables false
set_option linter.unusedSimpArgs false
set_option maxHeartbeats 4000000
namespace Go.Abs
def Wo (t:T3):List P2:=[⟨t.a,t.b⟩,⟨t.b,t.c⟩,⟨t.c,t.a⟩]
def Qz (t:T3) (k:Nat):List P2:=((Wo t).take k).filter λe=>decide (e.x≠e.y)
def Q4 (t:T3):List P2:=Qz t 3
def Xf (P:Program) (f:FuncId):Prop:=∀t:T3,CallIs P f [t.enc] (psV (Q4 t))
theorem Q9p (p:P2):(∀y∈p.cs,y.isD=true)=True:=by simp[P2.cs,V.isD]
theorem Yb (t:P2) (n:Nat):(∀y∈t.cs,y.cl n=true)=True:=by simp[P2.cs,V.cl,V.cl1,V.cl0]
theorem Qb9 (t:T3):Qz t 0=[]:=rfl
theorem Qyu (x y:Int) (l:List P2):(l++[(⟨x,y⟩:P2)]).filter (λe=>decide (e.x≠e.y))=if x=y then l.filter (λe=>decide (e.x≠e.y)) else l.filter (λe=>decide (e.x≠e.y))++[⟨x,y⟩]:=by
 rw[List.filter_append];by_cases h:x=y<;>simp[h]
theorem Qb8 (t:T3):Qz t 1=if t.a=t.b then Qz t 0 else Qz t 0++[⟨t.a,t.b⟩]:=Qyu t.a t.b []
theorem Qb7 (t:T3):Qz t 2=if t.b=t.c then Qz t 1 else Qz t 1++[⟨t.b,t.c⟩]:=Qyu t.b t.c [⟨t.a,t.b⟩]
theorem Qb6 (t:T3):Qz t 3=if t.c=t.a then Qz t 2 else Qz t 2++[⟨t.c,t.a⟩]:=Qyu t.c t.a [⟨t.a,t.b⟩,⟨t.b,t.c⟩]
theorem Zj (t:T3) (k:Nat):(Qz t k).length<=3:=by
 refine Nat.le_trans (jc _ _) ?_;simp[Wo];omega
section
variable {P:Program} (hm:P.follows .mixedOrders=true)
include hm
theorem E9 {f:FuncId} (hf:Q5 P f L0l.c L0l.r L0l.n):Xf P f:=by
 intro t;refine PI hm hf ?_;unfold L0l.c;simp[go_sem,T3.enc,T3.cs];have w1:IntKind.i64.wrap 1=1:=rfl;have w2:IntKind.i64.wrap 2=2:=rfl;have w3:IntKind.i64.wrap 3=3:=rfl;refine Qi [.t 3 2] (α:=Nat) (λk=>k<=3)
  (λk=>⟨[(3,.own 1 ((Qz t k).length+1) 0 (Qz t k).length),(21,.a [.i .i64 t.a,.i .i64 t.b,.i .i64 t.b,.i .i64 t.c,.i .i64 t.c,.i .i64 t.a]),(22,.i .i64 k)],
   [.dead,.arr ((Qz t k).length+1) 2 ((Qz t k).map P2.cs)]⟩)
  (λk=>3-k) 0 (by omega) ?_ ?_
 ·simp[go_sem,Qb9]
 ·intro k hk;have hl:=Zj t k;by_cases h3:k=3
  ·subst h3;simp[go_sem,L0l.r,psV,Q4,Q9p]
  ·have:k=0∨k=1∨k=2:=by omega
   rcases this with rfl | rfl | rfl
   ·have hs:=Qb8 t;generalize hE:Qz t 0=E0 at hs hl;by_cases h:t.a=t.b
    ·rw[if_pos h]at hs
     simp[go_sem,h,w1,w2,w3];exact⟨1,by omega,by omega,by simp[hs],by simp[hs],by simp[Yb]⟩
    ·rw[if_neg h]at hs
     simp[go_sem,h,w1,w2,w3];exact⟨by omega,1,by omega,by omega,by simp[hs],by simp[hs,pcs,or_imp,forall_and,V.cl,V.cl1,V.cl0]⟩
   ·have hs:=Qb7 t;generalize hE:Qz t 1=E0 at hs hl;by_cases h:t.b=t.c
    ·rw[if_pos h]at hs
     simp[go_sem,h,w1,w2,w3];exact⟨2,by omega,by omega,by simp[hs],by simp[hs],by simp[Yb]⟩
    ·rw[if_neg h]at hs
     simp[go_sem,h,w1,w2,w3];exact⟨by omega,2,by omega,by omega,by simp[hs],by simp[hs,pcs,or_imp,forall_and,V.cl,V.cl1,V.cl0]⟩
   ·have hs:=Qb6 t;generalize hE:Qz t 2=E0 at hs hl;by_cases h:t.c=t.a
    ·rw[if_pos h]at hs
     simp[go_sem,h,w1,w2,w3];exact⟨3,by omega,by omega,by simp[hs],by simp[hs],by simp[Yb]⟩
    ·rw[if_neg h]at hs
     simp[go_sem,h,w1,w2,w3];exact⟨by omega,3,by omega,by omega,by simp[hs],by simp[hs,pcs,or_imp,forall_and,V.cl,V.cl1,V.cl0]⟩
end
def Q7 (l:List T3):List P2:=l.flatMap Q4
def I8 (l:List T3):Bool:=decide (Q7 l).Nodup
def Qty (P:Program) (f:FuncId):Prop:=∀l:List T3,l.length<=1000000->CallIs P f [tsV l] (.b (I8 l))
def asV (p:P2 × Int):V × V:=(.a [.i .i64 p.1.x,.i .i64 p.1.y],.i .i64 p.2)
theorem Kq (e:P2) (L:List (P2 × Int)):Qo [1,1] (.a [.i .i64 e.x,.i .i64 e.y]) (L.map asV)=some ((fnd e L).map λp=>(p.1,.i .i64 p.2)):=Qki e L
def J9 (S:List P2):List (P2 × Int):=S.map λe=>(e,1)
theorem Q05 {e:P2} {S:List P2} (h:e∉S):fnd e (J9 S)=none:=by
 rw[Qb2];intro p hp;simp only[J9,qo]at hp;obtain⟨a,ha,rfl⟩:=hp;rintro rfl;exact h ha
theorem Q04 {e:P2}:∀{S:List P2},e∈S->∃i,fnd e (J9 S)=some (i,1)
 | [],h=>by simp at h
 | a::S,h=>by
   by_cases ha:e=a
   ·exact⟨0,by simp[J9,fnd,ha]⟩
   ·have:e∈S:=by simpa[ha]using h
    obtain⟨i,hi⟩:=Q04 this;exact⟨i+1,by simp only[J9,List.map_cons,fnd,if_neg ha];rw[show S.map (λe=>(e,(1:Int)))=J9 S from rfl,hi];rfl⟩
theorem Qvt (S:List P2) (e:P2):J9 (S++[e])=J9 S++[(e,1)]:=by simp[J9]
theorem Jd (L:List (P2 × Int)) (n:Nat):∀(a b:V) (x:P2) (y:Int),(x,y)∈L->asV (x,y)=(a,b)->V.cl n a=true/\V.cl n b=true:=by
 rintro _ _ x y _ h;simp only[asV,Prod.mk.injEq]at h;obtain⟨rfl,rfl⟩:=h;exact⟨rfl,rfl⟩
theorem Zy {l:List T3} {k:Nat} {t:T3} (h:l[k]?=some t):Q7 (l.take (k+1))=Q7 (l.take k)++Q4 t:=by
 simp[Q7,List.take_add_one,h]
theorem Yw (l:List T3) (k:Nat):(Q7 (l.take k)).length<=3*k:=by
 induction k with
 | zero=>simp[Q7]
 | succ k ih =>
   by_cases hk:k<l.length
   ·rw[Zy (q9 hk),j7];have:(Q4 l[k]).length<=3:=Zj _ 3;omega
   ·rw[qe (by omega)]at ih ⊢;omega
theorem coh_pre {l:List T3} {k:Nat} {S:List P2} (h:S <+: Q4 ((l[k]?).getD ⟨0,0,0⟩)) (hk:k<l.length):Q7 (l.take k)++S <+: Q7 l:=by
 have h1:l[k]?=some l[k]:=q9 hk;rw[h1]at h
 obtain⟨r,hr⟩:=h;have h2:Q7 l=Q7 (l.take (k+1))++Q7 (l.drop (k+1)):=by
  rw[Q7,Q7,Q7,<- List.flatMap_append,List.take_append_drop]
 rw[h2,Zy h1,show Q4 l[k]=S++r from hr.symm];exact⟨r++Q7 (l.drop (k+1)),by simp⟩
section
variable {P:Program} (hm:P.follows .mixedOrders=true)
include hm
theorem Q0h {f fe:FuncId} (hf:Q5 P f (L0k.c fe) L0k.r L0k.n) (he:Xf P fe):Qty P f:=by
 intro l hl;refine PI hm hf ?_;unfold L0k.c;simp[go_sem,tsV];refine Q8 (α:=Nat) (λk=>k<=l.length/\(Q7 (l.take k)).Nodup)
  (λk=>⟨[(3,.mp 0),(9,tsV l),(10,.i .i64 l.length),(11,.i .i64 k)],[.mp ((J9 (Q7 (l.take k))).map asV)]⟩)
  (λk=>l.length-k) 0 ⟨by omega,by simp[Q7]⟩ ?_ ?_
 ·simp[go_sem,tsV,Q7,J9]
 ·rintro k ⟨hk,hnd⟩;by_cases hkl:k=l.length
  ·subst hkl;simp[go_sem,tsV,L0k.r];rw[qi]at hnd
   simp[I8,hnd]
  ·have hlt:k<l.length:=by omega
   have hp:l[k]?=some l[k]:=q9 hlt;generalize l[k]=t at hp;obtain⟨_,hp'⟩:=q8.1 hp;simp[go_sem,tsV,hlt,hp',tcs];refine Q2 (he t) ?_;have hlen:(Q4 t).length<=3:=Zj t 3;simp[go_sem,psV];refine Q8 (α:=Nat) (λj=>j<=(Q4 t).length/\(Q7 (l.take k)++(Q4 t).take j).Nodup)
    (λj=>⟨[(3,.mp 0),(9,tsV l),(10,.i .i64 l.length),(11,.i .i64 k),(16,psV (Q4 t)),(17,.i .i64 (Q4 t).length),(18,.i .i64 j)],[.mp ((J9 (Q7 (l.take k)++(Q4 t).take j)).map asV)]⟩)
    (λj=>(Q4 t).length-j) 0 ⟨by omega,by simpa using hnd⟩ ?_ ?_
   ·simp[go_sem,tsV,psV];exact Jd _ 1
   ·rintro j ⟨hj,hnd2⟩;by_cases hjl:j=(Q4 t).length
    ·subst hjl;simp (disch:=omega) [go_sem,tsV,psV,Q0];rw[qi]at hnd2
     exact⟨k+1,⟨by omega,by rw[Zy hp];exact hnd2⟩,by omega,by omega,by rw[Zy hp],Jd _ 1⟩
    ·have hjlt:j<(Q4 t).length:=by omega
     have hq:(Q4 t)[j]?=some (Q4 t)[j]:=q9 hjlt;have htk:(Q4 t).take (j+1)=(Q4 t).take j++[(Q4 t)[j]]:=by rw[List.take_add_one,hq];rfl
     generalize (Q4 t)[j]=e at hq htk;obtain⟨_,hq'⟩:=q8.1 hq;have hpre:=coh_pre (l:=l) (k:=k) (S:=(Q4 t).take (j+1)) (by rw[hp];exact List.take_prefix _ _) hlt;rw[htk,<- j6]at hpre
     generalize hS:Q7 (l.take k)++(Q4 t).take j=S at hnd2 hpre;by_cases hmem:e∈S
     ·obtain⟨i,hi⟩:=Q04 hmem;have h1:=Kq e (J9 S);rw[hi]at h1
      simp only[Option.map_some]at h1;have h3:Qo [1,1] (V.a [V.i IntKind.i64 e.x,V.i IntKind.i64 e.y]) ((List.map asV (J9 S)).set i (V.a [V.i .i64 e.x,V.i .i64 e.y],V.i .i64 2))=some (some (i,.i .i64 2)):=by
       have:=Kq e ((J9 S).set i (e,2));rw[(Uq (n':=2) hi).2,List.map_set]at this
       exact this
      have hil:i<(J9 S).length:=(q8.1 (Uq (n':=2) hi).1).1;have hil':i<(List.map asV (J9 S)).length:=by simpa using hil
      have w2:IntKind.i64.wrap 2=2:=rfl;simp[go_sem,psV,hjlt,hq',pcs,h1,h3,w2,qm hil',List.set_set,L0k.r];unfold I8;rw[decide_eq_false];intro hall;have:=hall.sublist hpre.sublist;rw[List.nodup_append]at this
      exact this.2.2 e hmem e (by simp) rfl
     ·have h1:=Kq e (J9 S);rw[Q05 hmem]at h1
      simp only[Option.map_none]at h1;have w1:IntKind.i64.wrap 1=1:=rfl;have h3:Qo [1,1] (V.a [V.i IntKind.i64 e.x,V.i IntKind.i64 e.y]) (List.map asV (J9 S)++[(V.a [V.i .i64 e.x,V.i .i64 e.y],V.i .i64 1)])=some (some ((J9 S).length,.i .i64 1)):=by
       have:=Kq e (J9 S++[(e,1)]);rw[Qh5 (Q05 hmem),qx]at this
       exact this
      simp[go_sem,psV,hjlt,hq',pcs,h1,h3,w1];have hS1:Q7 (l.take k)++(Q4 t).take (j+1)=S++[e]:=by rw[htk,<- j6,hS]
      refine⟨j+1,⟨by omega,?_⟩,by omega,⟨.inr rfl,Q0 (by omega) (by omega)⟩,?_,Jd _ 1⟩
      ·rw[hS1,List.nodup_append];exact⟨hnd2,by simp,λa ha b hb=>by simp at hb;subst hb;rintro rfl;exact hmem ha⟩
      ·rw[hS1,Qvt,qx];rfl
end
def L41.c (L0e L42:FuncId):C :=(Bs [Au 1 (.box (.t 0)),Au 2 (.mv (.c .mnil))] (Bs [Au 8 (.mkm none),Am 3 8] (.seq (Bs [Ag 9 2 1,Au 10 (.call L0e [.t 9]),Ak .neq 11 10 0] (.ite (.t 11) (Bs [Am 12 3,Am 2 12] .ret) .skip)) (.seq (Bs [Af 13 1 1,Al 14 13,An 15 0 14,Ac 16 0] (.blk 0 (.loop (Bs [Aj .lss 17 16 15] (.seq (.ite (.t 17) .skip (.exit 0)) (.seq (.blk 1 (Bs [Ai 18 3 14 16,Ag 19 3 18,Au 5 (.alloc [(.i .i64 0),(.i .i64 0),(.i .i64 0)]),As 3 5 19] (Bs [Ag 20 3 5,Au 21 (.call L42 [.t 20]),An 22 0 21,Ac 23 0] (.blk 2 (.loop (Bs [Aj .lss 24 23 22] (.seq (.ite (.t 24) .skip (.exit 2)) (.seq (.blk 3
 (Bs [Ai 25 2 21 23,Ag 26 2 25,Au 7 (.alloc [(.i .i64 0),(.i .i64 0)]),As 2 7 26] (.reg [Am 27 3,Ag 28 2 7,⟨none,none,.eqa [1,1] false (.t 28) (.t 28)⟩,Au 29 (.lk [1,1] (.i .i64 0) false (.t 27) (.t 28)),Ad 30 29 1,Au 31 (.ment [1,1] (.i .i64 0) (.t 27) (.t 28)),Ax1 32 1 31,⟨none,none,.est (.t 27) (.t 32) (.t 30)⟩]))) (.reg [Ad 33 23 1,Am 23 33]))))))))) (.reg [Ad 34 16 1,Am 16 34]))))))) (Bs [Am 35 3,Am 2 35] .ret)))))
def L41.r:List Rr:=[.tmp 2]
abbrev L41.n:Nat:=36
def L44.c:C :=(Bs [Au 1 (.box (.t 0)),Au 2 (.alloc [(.i .i64 0),(.i .i64 0)])] (Bs [Af 3 1 1,Al 4 3,Af 5 0 1,Al 6 5,Au 7 (.build [(.i .i64 0),(.i .i64 0)] [(0,1,(.t 4)),(1,1,(.t 6))]),As 2 2 7] .ret))
def L44.r:List Rr:=[.cell 2 (some 2)]
abbrev L44.n:Nat:=8
def L42.c:C :=(Bs [Au 1 (.box (.t 0)),Az 2] (Bs [Az 3] (.seq (Bs [Af 6 0 1,Al 7 6,Af 8 1 1,Al 9 8,Au 10 (.build [(.i .i64 0),(.i .i64 0)] [(0,1,(.t 7)),(1,1,(.t 9))]),Af 11 1 1,Al 12 11,Af 13 2 1,Al 14 13,Au 15 (.build [(.i .i64 0),(.i .i64 0)] [(0,1,(.t 12)),(1,1,(.t 14))]),Af 16 2 1,Al 17 16,Af 18 0 1,Al 19 18,Au 20 (.build [(.i .i64 0),(.i .i64 0)] [(0,1,(.t 17)),(1,1,(.t 19))]),Au 21 (.build [(.i .i64 0),(.i .i64 0),(.i .i64 0),(.i .i64 0),(.i .i64 0),(.i .i64 0)] [(0,2,(.t 10)),(2,2,(.t 15)),(4,2,(.t 20))]),Ac 22 0] (.blk 0 (.loop (Bs [Ak .lss 23 22 3] (.seq (.ite (.t 23) .skip (.exit 0))
 (.seq (.blk 1 (Bs [Au 24 (.ix 3 2 (some 2) (.t 21) (.t 22)),Au 5 (.alloc [(.i .i64 0),(.i .i64 0)]),As 2 5 24] (Bs [Af 25 0 5,Al 26 25,Af 27 1 5,Al 28 27,Aj .neq 29 26 28] (.ite (.t 29) (.reg [Am 30 3,Ag 31 2 5,Au 32 (.bsi 2 1 [(.i .i64 0),(.i .i64 0)] [(0,(.t 31))]),Au 33 (.app 2 16 (.t 30) (.t 32)),Am 3 33]) .skip)))) (.reg [Ad 34 22 1,Am 22 34]))))))) (Bs [Am 35 3,Am 2 35] .ret))))
def L42.r:List Rr:=[.tmp 2]
abbrev L42.n:Nat:=36
def L45.c:C :=(Bs [Au 1 (.box (.t 0)),Au 2 (.alloc [(.i .i64 0),(.i .i64 0)])] (Bs [Af 3 0 1,Al 4 3,Af 5 1 1,Al 6 5,Au 7 (.mn [.t 4,.t 6]),Af 8 0 1,Al 9 8,Af 10 1 1,Al 11 10,Au 12 (.mx [.t 9,.t 11]),Au 13 (.build [(.i .i64 0),(.i .i64 0)] [(0,1,(.t 7)),(1,1,(.t 12))]),As 2 2 13] .ret))
def L45.r:List Rr:=[.cell 2 (some 2)]
abbrev L45.n:Nat:=14
def L43.c (L00 L01:FuncId):C :=(Bs [Au 2 (.box (.t 0)),Au 3 (.box (.t 1)),Ac 4 0] (.seq (.drw [Af 5 0 2,Al 6 5,Af 7 0 3,Al 8 7,Au 9 (.call L00 [.t 6,.t 8]),Af 10 1 2,Al 11 10,Af 12 1 3,Al 13 12,Au 14 (.call L00 [.t 11,.t 13]),Au 15 (.bsi 1 2 [(.i .i64 0)] [(0,(.t 9)),(1,(.t 14))]),Au 16 (.call L01 [.t 15]),Am 4 16] [[],[],[],[],[],[4],[4],[4],[4],[],[],[],[]]) .ret))
def L43.r:List Rr:=[.tmp 4]
abbrev L43.n:Nat:=17
def L3y.c (L41 L44 slices_SortFunc_api_Edge_api_Edge L43:FuncId):C :=(Bs [Au 1 (.box (.t 0)),Az 2] (Bs [Ag 7 2 1,Au 8 (.call L41 [.t 7]),Am 3 8] (Bs [Az 4] (.seq (Bs [Am 9 3,Au 10 (.mrng (.t 9))] (.blk 0 (.loop (Bs [Au 11 (.mnx (.t 10)),Ax1 12 0 11] (.seq (.ite (.t 12) .skip (.exit 0)) (.blk 1 (Bs [Au 13 (.men (.t 10)),Ax1 14 0 13,Ax1 15 1 13,Au 5 (.alloc [(.i .i64 0),(.i .i64 0)]),As 2 5 14,Am 6 15] (Bs [Am 16 6,Am 17 3,Ag 18 2 5,Au 19 (.call L44 [.t 18]),Au 20 (.lk [1,1] (.i .i64 0) false (.t 17) (.t 19)),Aj .gtr 21 16 20] (.ite (.t 21) (.reg [Am 22 4,Ag 23 2 5,Au 24 (.bsi 2 1 [(.i .i64 0),(.i .i64 0)] [(0,(.t 23))]),
 Au 25 (.app 2 16 (.t 22) (.t 24)),Am 4 25]) .skip))))))))) (Bs [Am 26 4,Au 27 (.call slices_SortFunc_api_Edge_api_Edge [.t 26,(.c (.f L43 []))])] (Bs [Am 28 4,Am 2 28] .ret))))))
def L3y.r:List Rr:=[.tmp 2]
abbrev L3y.n:Nat:=29
def L3z.c (L0e L3y:FuncId):C :=(Bs [Au 1 (.box (.t 0)),Ab 2 false] (Bs [Ag 3 2 1,Au 4 (.call L0e [.t 3]),Ak .eql 5 4 0,Am 6 5,Av 7 6 (.ld (some 2) (.t 1)),Av 8 6 (.call L3y [.t 7]),Av 9 6 (.len 0 (.t 8)),Av 10 6 (.bin .eql (.t 9) (.c (.i .i64 0))),Ap 11 6 10,Am 2 11] .ret))
def L3z.r:List Rr:=[.tmp 2]
abbrev L3z.n:Nat:=12
def L40.c (L0e L42 L45 slices_Sort_int_int:FuncId):C :=(Bs [Au 1 (.box (.t 0)),Az 2] (.seq (Bs [Ag 17 2 1,Au 18 (.call L0e [.t 17]),Ak .neq 19 18 0] (.ite (.t 19) (Bs [Az 2] .ret) .skip)) (Bs [Au 20 (.mkm none),Am 3 20] (.seq (Bs [Af 21 1 1,Al 22 21,An 23 0 22,Ac 24 0] (.blk 0 (.loop (Bs [Aj .lss 25 24 23] (.seq (.ite (.t 25) .skip (.exit 0)) (.seq (.blk 1 (Bs [Am 26 24,Ai 27 3 22 24,Ag 28 3 27,Au 5 (.alloc [(.i .i64 0),(.i .i64 0),(.i .i64 0)]),Am 4 26,As 3 5 28] (Bs [Ag 29 3 5,Au 30 (.call L42 [.t 29]),An 31 0 30,Ac 32 0] (.blk 2 (.loop (Bs [Aj .lss 33 32 31] (.seq (.ite (.t 33) .skip (.exit 2))
 (.seq (.blk 3 (Bs [Ai 34 2 30 32,Ag 35 2 34,Au 7 (.alloc [(.i .i64 0),(.i .i64 0)]),As 2 7 35] (.drw [Am 36 3,Ag 37 2 7,Au 38 (.call L45 [.t 37]),Am 39 3,Ag 40 2 7,Au 41 (.call L45 [.t 40]),Au 42 (.lk [1,1] .nil false (.t 39) (.t 41)),Am 43 4,Au 44 (.bsi 1 1 [(.i .i64 0)] [(0,(.t 43))]),Au 45 (.app 1 8 (.t 42) (.t 44)),⟨none,none,.mup [1,1] (.t 36) (.t 38) (.t 45)⟩] [[],[],[],[],[2],[],[],[],[],[],[]]))) (.reg [Ad 46 32 1,Am 32 46]))))))))) (.reg [Ad 47 24 1,Am 24 47]))))))) (Bs [Az 8] (Bs [Af 48 1 1,Al 49 48,An 50 0 49,Au 51 (.mks 1 1 [(.b false)] (.t 50)),Am 9 51] (.seq (Bs [Af 52 1 1,Al 53 52,
 An 54 0 53,Ac 55 0] (.blk 4 (.loop (Bs [Aj .lss 56 55 54] (.seq (.ite (.t 56) .skip (.exit 4)) (.seq (.blk 5 (Bs [Am 57 55,Am 10 57] (.seq (Bs [Am 58 9,Am 59 10,Ai 60 1 58 59,Al 61 60] (.ite (.t 61) (.exit 5) .skip)) (Bs [Am 62 9,Am 63 10,Ai 64 1 62 63,⟨none,none,.st 1 (.t 64) (.c (.b true))⟩] (Bs [Am 65 10,Au 66 (.bso 1 1 [(.i .i64 0)] [(0,(.t 65))]),Am 11 66] (.seq (Bs [Ac 12 0] (.blk 6 (.loop (.seq (Bs [Am 67 12,Am 68 11,An 69 0 68,Aj .lss 70 67 69] (.ite (.t 70) .skip (.exit 6))) (.seq (.blk 7 (.seq (.drw [Af 73 1 1,Al 74 73,Am 75 11,Am 76 12,Ai 77 1 75 76,Al 78 77,Ai 79 3 74 78,Ag 80 3 79,
 Au 81 (.call L42 [.t 80]),An 82 0 81,Ac 83 0] []) (.blk 8 (.loop (Bs [Aj .lss 84 83 82] (.seq (.ite (.t 84) .skip (.exit 8)) (.seq (.blk 9 (Bs [Ai 85 2 81 83,Ag 86 2 85,Au 14 (.alloc [(.i .i64 0),(.i .i64 0)]),As 2 14 86] (Bs [Am 87 3,Ag 88 2 14,Au 89 (.call L45 [.t 88]),Au 90 (.lk [1,1] .nil false (.t 87) (.t 89)),An 91 0 90,Ac 92 0] (.blk 10 (.loop (Bs [Aj .lss 93 92 91] (.seq (.ite (.t 93) .skip (.exit 10)) (.seq (.blk 11 (Bs [Ai 94 1 90 92,Al 95 94,Am 16 95] (Bs [Am 96 9,Am 97 16,Ai 98 1 96 97,Al 99 98,Au 100 (.un .not (.t 99))] (.ite (.t 100) (Bs [Am 101 9,Am 102 16,Ai 103 1 101 102,⟨none,none,.st 1 (.t 103) (.c (.b true))⟩]
 (.reg [Am 104 11,Am 105 16,Au 106 (.bsi 1 1 [(.i .i64 0)] [(0,(.t 105))]),Au 107 (.app 1 8 (.t 104) (.t 106)),Am 11 107])) .skip)))) (.reg [Ad 108 92 1,Am 92 108]))))))))) (.reg [Ad 109 83 1,Am 83 109])))))))) (.reg [Am 71 12,Ad 72 71 1,Am 12 72])))))) (Bs [Am 110 11,Au 111 (.call slices_Sort_int_int [.t 110])] (.reg [Am 112 8,Am 113 11,Au 114 (.bso 1 1 [.nil] [(0,(.t 113))]),Au 115 (.app 1 24 (.t 112) (.t 114)),Am 8 115])))))))) (.reg [Ad 116 55 1,Am 55 116]))))))) (Bs [Am 117 8,Am 2 117] .ret))))))))
def L40.r:List Rr:=[.tmp 2]
abbrev L40.n:Nat:=118
theorem Io {α:Type} {p:List α->Prop} (h0:p []) (h1:∀E x,p E->p (E++[x])) (E:List α):p E:=by
 rw[<- E.reverse_reverse]
 induction E.reverse with
 | nil=>exact h0
 | cons x l ih=>rw[List.reverse_cons];exact h1 _ _ ih
def Ql1 (L:List (P2 × Int)) (e:P2):List (P2 × Int) :=
 match fnd e L with
 | some (i,n)=>L.set i (e,n+1)
 | none=>L++[(e,1)]
def X3 (E:List P2):List (P2 × Int):=E.foldl Ql1 []
theorem Ue (E:List P2) (e:P2):X3 (E++[e])=Ql1 (X3 E) e:=by simp[X3]
def val (e:P2) (L:List (P2 × Int)):Int:=match fnd e L with | some (_,n)=>n | none=>0
theorem Qb1 {e e':P2} (hne:e'≠e) {n':Int}:∀{L:List (P2 × Int)} {i:Nat} {n:Int},fnd e L=some (i,n)->fnd e' (L.set i (e,n'))=fnd e' L
 | [],i,n,h=>by simp[fnd]at h
 | (k,m)::r,i,n,h=>by
   simp only[fnd]at h;by_cases hk:e=k
   ·simp[hk]at h
    obtain⟨rfl,rfl⟩:=h;subst hk;simp[fnd,hne]
   ·simp only[hk,if_false,qa,Prod.mk.injEq]at h;obtain⟨⟨j,n1⟩,hj,rfl,rfl⟩:=h;have:=Qb1 (n':=n') hne hj;simp only[List.set_cons_succ,fnd,this]
theorem Qb3 {e e':P2} (hne:e'≠e) {n:Int}:∀{L:List (P2 × Int)},fnd e' (L++[(e,n)])=fnd e' L
 | []=>by simp[fnd,hne]
 | (k,m)::r=>by
   simp only[List.cons_append,fnd,Qb3 hne]
theorem Qua (L:List (P2 × Int)) (e e':P2):val e' (Ql1 L e)=val e' L+if e'=e then 1 else 0:=by
 unfold Ql1;cases h:fnd e L with
 | none =>
   simp only;by_cases he:e'=e
   ·subst he;simp only[val,Qh5 h,h,if_true];omega
   ·simp only[val,Qb3 he,he,if_false];omega
 | some p =>
   obtain⟨i,n⟩:=p;simp only;by_cases he:e'=e
   ·subst he;simp only[val,(Uq (n':=n+1) h).2,h,if_true]
   ·simp only[val,Qb1 he h,he,if_false];omega
theorem Q33 (E:List P2) (e:P2):val e (X3 E)=E.count e:=by
 refine Io (p:=λE=>val e (X3 E)=E.count e) ?_ ?_ E
 ·rfl
 ·intro E x ih;rw[Ue,Qua,ih,List.count_append,List.count_singleton];by_cases h:e=x
  ·subst h;simp
  ·have:¬ x=e:=λhh=>h hh.symm
   simp[h,this]
theorem Qwf {L:List (P2 × Int)} {i:Nat} {e:P2} {n n':Int} (h:L[i]?=some (e,n)):(L.set i (e,n')).map Prod.fst=L.map Prod.fst:=by
 rw[List.map_set];apply qy;intro j;by_cases hj:i=j
 ·subst hj;have:=(q8.1 h).1;rw[qm (by simpa using this)];simp[h]
 ·rw[qt hj]
theorem Qrt (L:List (P2 × Int)) (e:P2):(Ql1 L e).map Prod.fst=if (fnd e L).isSome then L.map Prod.fst else L.map Prod.fst++[e]:=by
 unfold Ql1;cases h:fnd e L with
 | none=>simp
 | some p =>
   obtain⟨i,n⟩:=p;simp only[Option.isSome_some,if_true];exact Qwf (Uq (n':=n) h).1
theorem fnd_keys {e:P2} {L:List (P2 × Int)}:fnd e L=none↔e∉L.map Prod.fst:=by
 rw[Qb2];constructor
 ·rintro h hm;obtain⟨p,hp,rfl⟩:=qo.1 hm;exact h p hp rfl
 ·rintro h p hp rfl;exact h (ju hp)
theorem Uf (E:List P2):((X3 E).map Prod.fst).Nodup/\∀e,e∈(X3 E).map Prod.fst↔e∈E:=by
 refine Io (p:=λE=>((X3 E).map Prod.fst).Nodup/\∀e,e∈(X3 E).map Prod.fst↔e∈E) ?_ ?_ E
 ·simp[X3]
 ·intro E x ih;rw[Ue,Qrt];cases h:fnd x (X3 E) with
  | none =>
    have h':=fnd_keys.1 h;simp only[Option.isSome_none,Bool.false_eq_true,if_false];refine⟨?_,λe=>?_⟩
    ·rw[List.nodup_append];exact⟨ih.1,by simp,λa ha b hb=>by simp at hb;subst hb;rintro rfl;exact h' ha⟩
    ·rw[qg,ih.2,qg]
  | some p =>
    have h':x∈(X3 E).map Prod.fst:=jb λhh=>by rw[fnd_keys.2 hh]at h;simp at h
    simp only[Option.isSome_some,if_true];refine⟨ih.1,λe=>?_⟩;rw[ih.2,qg];constructor
    ·exact .inl
    ·rintro (h2 | h2)
     ·exact h2
     ·simp at h2;subst h2;exact(ih.2 e).1 h'
theorem Ur:∀{L:List (P2 × Int)} {i:Nat} {e:P2} {n:Int},(L.map Prod.fst).Nodup->L[i]?=some (e,n)->fnd e L=some (i,n)
 | [],i,e,n,_,h=>by simp at h
 | (k,m)::r,0,e,n,_,h=>by simp at h;obtain⟨rfl,rfl⟩:=h;simp[fnd]
 | (k,m)::r,i+1,e,n,hn,h=>by
   simp only[List.map_cons,List.nodup_cons]at hn;simp only[List.getElem?_cons_succ]at h;have hk:¬ e=k:=by
    rintro rfl;exact hn.1 (qo.2 ⟨(e,n),qb h,rfl⟩)
   simp[fnd,hk,Ur hn.2 h]
theorem Qdo {E:List P2} {i:Nat} {e:P2} {n:Int} (h:(X3 E)[i]?=some (e,n)):e∈E/\n=E.count e:=by
 have hk:=Uf E;refine⟨(hk.2 e).1 (qo.2 ⟨(e,n),qb h,rfl⟩),?_⟩;have:=Q33 E e;rw[val,Ur hk.1 h]at this
 exact this
theorem Qui {E:List P2} {e:P2} (h:e∈E):∃i:Nat,(X3 E)[i]?=some (e,(E.count e:Int)):=by
 obtain⟨p,hp,rfl⟩:=qo.1 (((Uf E).2 e).2 h);obtain⟨i,hi⟩:=qq hp;refine⟨i,?_⟩;rw[hi];have:=(Qdo (e:=p.1) (n:=p.2) hi).2;rw[<- this]
def left (n:Nat) (seen:List Nat):Nat:=((List.range n).filter λi=>!seen.contains i).length
theorem Qp5 {n i:Nat} {seen:List Nat} (hi:i<n) (hs:i∉seen):left n (seen++[i])<left n seen:=by
 have h:(List.range n).filter (λj=>!(seen++[i]).contains j)=((List.range n).filter λj=>!seen.contains j).filter (λj=>!(j == i)):=by
  rw[List.filter_filter];congr 1;funext j;by_cases h1:j∈seen<;>by_cases h2:j=i<;>simp[h1,h2]
 unfold left;rw[h,List.length_filter_lt_length_iff_exists];exact⟨i,by simp[hi,hs],by simp⟩
def P2.lt (a b:P2):Prop:=a.x<b.x∨(a.x=b.x/\a.y<b.y)
instance (a b:P2):Decidable (P2.lt a b):=by unfold P2.lt;infer_instance
theorem P2.lt_irrefl (a:P2):¬ P2.lt a a:=by unfold P2.lt;omega
theorem P2.lt_trans {a b c:P2} (h1:P2.lt a b) (h2:P2.lt b c):P2.lt a c:=by unfold P2.lt at *;omega
theorem P2.lt_total {a b:P2} (h:¬ P2.lt a b) (h':¬ P2.lt b a):a=b:=by
 unfold P2.lt at *
 have h1:a.x=b.x:=by omega
 have h2:a.y=b.y:=by omega
 cases a;cases b;simp_all
theorem P2.lt_asymm {a b:P2} (h1:P2.lt a b):¬ P2.lt b a:=by unfold P2.lt at *;omega
def asc (l:List P2):Prop:=l.Pairwise P2.lt
theorem Q2v:∀{l1 l2:List P2},asc l1->asc l2->(∀a,a∈l1↔a∈l2)->l1=l2
 | [],[],_,_,_=>rfl
 | [],y::l2,_,_,h=>by have:=(h y).2 (by simp);simp at this
 | x::l1,[],_,_,h=>by have:=(h x).1 (by simp);simp at this
 | x::l1,y::l2,h1,h2,h=>by
   have p1:=jd.1 h1;have p2:=jd.1 h2;have hxy:x=y:=by
    rcases List.mem_cons.1 ((h x).1 (by simp)) with h3 | h3
    ·exact h3
    ·rcases List.mem_cons.1 ((h y).2 (by simp)) with h4 | h4
     ·exact h4.symm
     ·exact absurd (p2.1 x h3) (P2.lt_asymm (p1.1 y h4))
   subst hxy;rw[Q2v p1.2 p2.2 λa=>?_];constructor
   ·intro ha;rcases List.mem_cons.1 ((h a).1 (by simp[ha])) with h3 | h3
    ·subst h3;exact absurd (p1.1 a ha) (P2.lt_irrefl a)
    ·exact h3
   ·intro ha;rcases List.mem_cons.1 ((h a).2 (by simp[ha])) with h3 | h3
    ·subst h3;exact absurd (p2.1 a ha) (P2.lt_irrefl a)
    ·exact h3
def Qk1 (e:P2):List P2->List P2
 | []=>[e]
 | x::l=>if e=x then x::l else if P2.lt e x then e::x::l else x::Qk1 e l
theorem mem_insP {e a:P2}:∀{l:List P2},a∈Qk1 e l↔a=e∨a∈l
 | []=>by simp[Qk1]
 | x::l=>by
   simp only[Qk1];split
   ·rename_i h;subst h;simp
   ·split
    ·simp
    ·simp[mem_insP];constructor<;>(rintro (h | h | h)<;>simp[h])
theorem Qk0 {e:P2}:∀{l:List P2},asc l->asc (Qk1 e l)
 | [],_=>by simp[Qk1,asc]
 | x::l,h=>by
   have hc:=jd.1 h;simp only[Qk1];split
   ·exact h
   ·split
    ·rename_i h1 h2;refine jd.2 ⟨λb hb=>?_,h⟩;rcases List.mem_cons.1 hb with rfl | hb
     ·exact h2
     ·exact P2.lt_trans h2 (hc.1 b hb)
    ·rename_i h1 h2;refine jd.2 ⟨λb hb=>?_,Qk0 hc.2⟩;rcases mem_insP.1 hb with rfl | hb
     ·exact jb λh3=>h1 (P2.lt_total h2 h3)
     ·exact hc.1 b hb
def Jv (l:List P2):List P2:=l.foldr Qk1 []
theorem Jc (l:List P2):asc (Jv l):=by
 induction l with
 | nil=>simp[Jv,asc]
 | cons x l ih=>exact Qk0 ih
theorem mem_ascOf {l:List P2} {a:P2}:a∈Jv l↔a∈l:=by
 induction l with
 | nil=>simp[Jv]
 | cons x l ih=>simp only[Jv,List.foldr_cons,mem_insP,List.mem_cons];rw[<- ih];rfl
theorem Qky {ys xs:List P2} (hp:ys.Perm xs) (hn:xs.Nodup) (hs:ys.Pairwise λa b=>¬ P2.lt b a):ys=Jv xs:=by
 refine Q2v ?_ (Jc xs) λa=>by rw[hp.mem_iff,mem_ascOf]
 have hn':ys.Nodup:=hp.symm.nodup hn;exact(List.Pairwise.and hs hn').imp λh=>jb λh3=>h.2 (P2.lt_total h3 h.1)
def L00.c (L02:FuncId):C :=(Bs [Ac 4 0] (Bs [Am 7 0,Au 8 (.call L02 [.t 7]),Am 5 8] (Bs [Am 9 1,Au 10 (.call L02 [.t 9]),Am 6 10] (.seq (Bs [Am 11 5] (.ite (.t 11) (.seq (Bs [Am 12 6] (.ite (.t 12) (Bs [Ac 4 0] .ret) .skip)) (Bs [Ac 4 (-1)] .ret)) .skip)) (.seq (Bs [Am 13 6] (.ite (.t 13) (Bs [Ac 4 1] .ret) .skip)) (.seq (Bs [Am 14 0,Am 15 1,Aj .lss 16 14 15] (.ite (.t 16) (Bs [Ac 4 (-1)] .ret) .skip)) (.seq (Bs [Am 17 0,Am 18 1,Aj .gtr 19 17 18] (.ite (.t 19) (Bs [Ac 4 1] .ret) .skip)) (Bs [Ac 4 0] .ret))))))))
def L00.r:List Rr:=[.tmp 4]
abbrev L00.n:Nat:=20
def L02.c:C :=(Bs [Ab 2 false] (Bs [Am 3 0,Am 4 0,Aj .neq 5 3 4,Am 2 5] .ret))
def L02.r:List Rr:=[.tmp 2]
abbrev L02.n:Nat:=6
def L01.c:C :=(Bs [Ac 2 0] (Bs [Ac 3 0] (.seq (Bs [Am 6 0,An 7 0 6,Ac 8 0] (.blk 0 (.loop (Bs [Aj .lss 9 8 7] (.seq (.ite (.t 9) .skip (.exit 0)) (.seq (.blk 1 (Bs [Ai 10 1 6 8,Al 11 10,Am 5 11] (Bs [Am 12 5,Am 13 3,Aj .neq 14 12 13] (.ite (.t 14) (Bs [Am 15 5,Am 2 15] .ret) .skip)))) (.reg [Ad 16 8 1,Am 8 16]))))))) (Bs [Am 17 3,Am 2 17] .ret))))
def L01.r:List Rr:=[.tmp 2]
abbrev L01.n:Nat:=18
def Q15 (x y:Int):Int:=if x<y then -1 else if y<x then 1 else 0
def CmpC (P:Program) (f:FuncId):Prop:=∀x y:Int,CallIs P f [.i .i64 x,.i .i64 y] (.i .i64 (Q15 x y))
def NaNC (P:Program) (f:FuncId):Prop:=∀x:Int,CallIs P f [.i .i64 x] (.b false)
theorem cmpI_lt (x y:Int):decide (Q15 x y<0)=decide (x<y):=by
 unfold Q15;by_cases h1:x<y
 ·simp[h1]
 ·by_cases h2:y<x<;>simp[h1,h2]
section
variable {P:Program} (hm:P.follows .mixedOrders=true)
include hm
theorem Qxi {f:FuncId} (hf:Q5 P f L02.c L02.r L02.n):NaNC P f:=by
 intro x;refine PI hm hf ?_;unfold L02.c;simp[go_sem,L02.r]
theorem Qoc {f fn:FuncId} (hf:Q5 P f (L00.c fn) L00.r L00.n) (hn:NaNC P fn):CmpC P f:=by
 intro x y;refine PI hm hf ?_;unfold L00.c;simp[go_sem];refine Q2 (hn x) ?_;simp[go_sem];refine Q2 (hn y) ?_;by_cases h1:x<y
 ·simp[go_sem,h1,L00.r,Q15]
 ·by_cases h2:y<x<;>simp[go_sem,h1,h2,L00.r,Q15]
end
end Go.Abs
