/- Part of the library on which the proof stands: an abstract machine, its values and its soundness against the model; or what functions of the program do to such values. -/
import Derived.Test.YtnaehggpjfdenaaGreatGoRsG
set_option linter.unusedVariables false
set_option linter.unusedSimpArgs false
set_option maxHeartbeats 8000000
set_option maxRecDepth 20000
namespace Go.Abs
def CrsC (P:Program) (f:FuncId):Prop:=∀a b p:P2,a.valid=true->b.valid=true->p.valid=true->CallIs P f [a.enc,b.enc,p.enc] (.i .i64 (K9 (a,b) p))
def Qtf (P:Program) (f:FuncId):Prop:=∀(ps:List (List P2)) (p:P2),PolyOk ps->p.valid=true->CallIs P f [Qb ps,p.enc] (.i .i64 (wnd (ps.flatMap Qs) p))
def Qcz (P:Program) (f:FuncId):Prop:=∀(ps:List (List P2)) (p:P2),PolyOk ps->p.valid=true->CallIs P f [Qb ps,p.enc] (.b (decide (0<wnd (ps.flatMap Qs) p)))
def Qd8 (P:Program) (f:FuncId):Prop:=∀x y k:Int,-4096<=x->x<4096->-4096<=y->y<4096->PitchOk k->CallIs P f [(⟨x,y⟩:P2).enc,.i .i64 k] (ctr k y x).enc
theorem Qk4 (e:Eg) (p:P2):-1<=K9 e p/\K9 e p<=1:=by
 unfold K9
 split
 ·omega
 ·split<;>omega
theorem Qgb:∀(es:List Eg) (p:P2),-(es.length:Int)<=wnd es p/\wnd es p<=es.length
 | [],p=>by simp[Q42]
 | e::es,p=>by
   have h1:=Qk4 e p
   have h2:=Qgb es p
   rw[Jr]
   simp only[List.length_cons]
   omega
theorem Qn4 {k y x:Int} (hk:PitchOk k) (h1:-4096<=x) (h2:x<4096) (h3:-4096<=y) (h4:y<4096):(ctr k y x).valid=true:=by
 have m1:=Xh (a:=x) (b:=k) (k:=4096) (m:=1024) (by omega) (by have:=hk.lo;have:=hk.hi;omega)
 have m2:=Xh (a:=y) (b:=k) (k:=4096) (m:=1024) (by omega) (by have:=hk.lo;have:=hk.hi;omega)
 have:=hk.lo
 have:=hk.hi
 refine P2.valid_iff.2 ?_
 unfold ctr
 simp only[]
 omega
section
variable {P:Program} (hm:P.follows .mixedOrders=true)
include hm
theorem Q31 {f:FuncId} (hf:Q9 P f L1j.c L1j.r L1j.n):Qd8 P f:=by
 intro x y k h1 h2 h3 h4 hk
 have m1:=Xh (a:=x) (b:=k) (k:=4096) (m:=1024) (by omega) (by have:=hk.lo;have:=hk.hi;omega)
 have m2:=Xh (a:=y) (b:=k) (k:=4096) (m:=1024) (by omega) (by have:=hk.lo;have:=hk.hi;omega)
 have k1:=hk.lo
 have k2:=hk.hi
 have hq:=quoK hk
 refine PureC.is (Q6 hm hf (qh rfl) ?_) rfl
 unfold L1j.c ctr
 generalize hA:x*k=A at *
 generalize hB:y*k=B at *
 have w1:IntKind.i64.wrap A=A:=Q0 (by omega) (by omega)
 have w2:IntKind.i64.wrap B=B:=Q0 (by omega) (by omega)
 have w3:IntKind.i64.wrap (k / 2)=k / 2:=Q0 (by omega) (by omega)
 have w4:IntKind.i64.wrap (A+k / 2)=A+k / 2:=Q0 (by omega) (by omega)
 have w5:IntKind.i64.wrap (B+k / 2)=B+k / 2:=Q0 (by omega) (by omega)
 simp[go_sem,P2.enc,P2.cs,show ¬ x < -4096 by omega,show ¬ 4096<=x by omega,show ¬ y < -4096 by omega,show ¬ 4096<=y by omega,show ¬ k<32 by omega,show ¬ 1024<k by omega,hq,hA,hB,w1,w2,w3,w4,w5,L1j.r]
theorem Q0v {f fv ft:FuncId} (hf:Q9 P f (L1c.c fv ft) L1c.r L1c.n) (hv:Xo P fv) (ht:Qtj P ft):CrsC P f:=by
 intro a b p ha hb hp
 have v1:=hv a
 have v2:=hv b
 rw[ha]at v1
 rw[hb]at v2
 have t1:=ht a b p
 have hc2:Ki a b p=Y1 a b p:=if_pos ⟨ha,hb,hp⟩
 unfold Qon at t1
 rw[hc2]at t1
 refine PureC.is (Q6 hm hf (qh rfl) ?_) rfl
 unfold L1c.c K9
 generalize Y1 a b p=c at *
 simp only[]
 have e1:a.enc=V.a [V.i .i64 a.x,V.i .i64 a.y]:=rfl
 have e2:b.enc=V.a [V.i .i64 b.x,V.i .i64 b.y]:=rfl
 have e3:p.enc=V.a [V.i .i64 p.x,V.i .i64 p.y]:=rfl
 rw[e1]at v1
 rw[e2]at v2
 rw[e1,e2,e3]at t1
 by_cases h1:a.y<=p.y
 ·by_cases h2:p.y<b.y
  ·by_cases h3:0<c
   ·rw[if_pos h3]at t1
    rw[if_pos ⟨h1,h2,h3⟩]
    simp[go_sem,e1,e2,e3]
    refine Q4 v1 ?_
    simp[go_sem]
    refine Q4 v2 ?_
    simp[go_sem,h1,h2]
    refine Q4 t1 ?_
    simp[go_sem,L1c.r]
   ·rw[if_neg h3]at t1
    rw[if_neg (λh=>h3 h.2.2),if_neg (by omega)]
    have h4:¬ 0<(if c<0 then (-1:Int) else 0):=by split<;>omega
    generalize (if c<0 then (-1:Int) else 0)=q at *
    simp[go_sem,e1,e2,e3]
    refine Q4 v1 ?_
    simp[go_sem]
    refine Q4 v2 ?_
    simp[go_sem,h1,h2]
    refine Q4 t1 ?_
    simp[go_sem,h4,show ¬ b.y<=p.y by omega,L1c.r]
  ·rw[if_neg (λh=>h2 h.2.1),if_neg (by omega)]
   simp[go_sem,e1,e2,e3]
   refine Q4 v1 ?_
   simp[go_sem]
   refine Q4 v2 ?_
   simp[go_sem,h1,h2,show b.y<=p.y by omega,show ¬ p.y<a.y by omega,L1c.r]
 ·rw[if_neg (λh=>h1 h.1)]
  by_cases h2:b.y<=p.y
  ·have h5:p.y<a.y:=by omega
   by_cases h3:0<c
   ·rw[if_pos h3]at t1
    rw[if_neg (by omega)]
    simp[go_sem,e1,e2,e3]
    refine Q4 v1 ?_
    simp[go_sem]
    refine Q4 v2 ?_
    simp[go_sem,h1,h2,h5]
    refine Q4 t1 ?_
    simp[go_sem,L1c.r]
   ·rw[if_neg h3]at t1
    by_cases h4:c<0
    ·rw[if_pos h4]at t1
     rw[if_pos ⟨h2,h5,h4⟩]
     simp[go_sem,e1,e2,e3]
     refine Q4 v1 ?_
     simp[go_sem]
     refine Q4 v2 ?_
     simp[go_sem,h1,h2,h5]
     refine Q4 t1 ?_
     simp[go_sem,L1c.r]
    ·rw[if_neg h4]at t1
     rw[if_neg (by omega)]
     simp[go_sem,e1,e2,e3]
     refine Q4 v1 ?_
     simp[go_sem]
     refine Q4 v2 ?_
     simp[go_sem,h1,h2,h5]
     refine Q4 t1 ?_
     simp[go_sem,L1c.r]
  ·rw[if_neg (λh=>h2 h.1)]
   simp[go_sem,e1,e2,e3]
   refine Q4 v1 ?_
   simp[go_sem]
   refine Q4 v2 ?_
   simp[go_sem,h1,h2,L1c.r]
theorem Q34 {f fw:FuncId} (hf:Q9 P f (L1a.c fw) L1a.r L1a.n) (hw:Qtf P fw):Qcz P f:=by
 intro ps p hps hp
 have h:=hw ps p hps hp
 refine PureC.is (Q6 hm hf (qh rfl) ?_) rfl
 unfold L1a.c
 simp[go_sem,Qb,P2.enc,P2.cs]
 refine Q4 h ?_
 simp[go_sem,L1a.r]
theorem Q0w {f fv fc:FuncId} (hf:Q9 P f (L1b.c fv fc) L1b.r L1b.n) (hv:Xo P fv) (hc:CrsC P fc):Qtf P f:=by
 intro ps pp hps hp
 have v1:=hv pp
 rw[hp]at v1
 have hpl:=hps.num
 have e3:pp.enc=V.a [V.i .i64 pp.x,V.i .i64 pp.y]:=rfl
 rw[e3]at v1
 refine PureC.is (Q6 hm hf (qh rfl) ?_) rfl
 unfold L1b.c
 simp[go_sem,Qb,e3]
 refine Q4 v1 ?_
 simp[go_sem,Qb]
 obtain⟨A,hA⟩:∃A:Nat->Int,∀i,A i=wnd ((ps.take i).flatMap Qs) pp:=⟨_,λ_=>rfl⟩
 have hA0:A 0=0:=by rw[hA];rfl
 have hAn:A ps.length=wnd (ps.flatMap Qs) pp:=by rw[hA,qi]
 refine Qc (α:=Nat) (λi=>i<=ps.length)
  (λi=>⟨[(3,.p 0 1 0 0),(5,.i .i64 (A i)),(12,Qb ps),(13,.i .i64 ps.length),(14,.i .i64 i)],[.arr 1 2 [pp.cs]]⟩)
  (λi=>ps.length-i) 0 (Nat.zero_le _) ?_ ?_
 ·simp[go_sem,Qb,hA0,P2.cs]
 ·intro i hi
  by_cases hil:i=ps.length
  ·subst hil
   rw[hAn]
   simp[go_sem,Qb,L1b.r]
  ·have hlt:i<ps.length:=by omega
   have hq:ps[i]?=some ps[i]:=q9 hlt
   have hln:=hps.len hq
   have hAs:A (i+1)=A i+wnd (Qs ps[i]) pp:=by rw[hA,hA,Qa hq,List.flatMap_append,Qj3];simp
   have hAb:=Qgb ((ps.take i).flatMap Qs) pp
   rw[<- hA]at hAb
   have hpt:∀v∈ps[i],v.valid=true:=λv hv=>by
    have:=hps.pt (qb hq) hv
    exact P2.valid_iff.2 (by omega)
   generalize ps[i]=p at *
   obtain⟨_,hq'⟩:=q8.1 hq
   generalize A i=B at *
   simp (disch:=omega) [go_sem,Qb,psV,P2.cs,hlt,hq,hq',Q0]
   obtain⟨C,hC⟩:∃C:Nat->Int,∀j,C j=B+wnd (Jw p j) pp:=⟨_,λ_=>rfl⟩
   refine Qc (α:=Nat) (λj=>j<=p.length)
    (λj=>⟨[(3,.p 0 1 0 0),(5,.i .i64 (C j)),(7,.p 1 1 0 0),(12,Qb ps),(13,.i .i64 ps.length),(14,.i .i64 i),(19,psV p),(20,.i .i64 p.length),(21,.i .i64 j)],[.arr 1 2 [pp.cs],.arr 1 1 [[psV p]]]⟩)
    (λj=>p.length-j) 0 (Nat.zero_le _) ?_ ?_
   ·have hC0:C 0=B:=by rw[hC];simp[Jw,Q42]
    simp[go_sem,Qb,psV,hC0,P2.cs]
   ·intro j hj
    by_cases hjl:j=p.length
    ·subst hjl
     have hCn:C p.length=A (i+1):=by rw[hC,Q95,hAs]
     rw[hCn]
     simp (disch:=omega) [go_sem,Qb,psV,Q0]
     exact⟨i+1,by omega,by omega,⟨rfl,by omega⟩,rfl⟩
    ·have hjt:j<p.length:=by omega
     have hCb:-8192<=C j/\C j<=8192:=by
      have h1:=Qgb (Jw p j) pp
      have h2:(Jw p j).length<=p.length:=by unfold Jw;rw[qv,Jl];omega
      rw[hC];omega
     obtain⟨j2,a,b,hj2,hrem,ha,hb,hCs⟩:∃(j2:Nat) (a b:P2),j2<p.length/\((j:Int)+1).tmod (p.length:Int)=(j2:Int)/\p[j]?=some a/\p[j2]?=some b/\C (j+1)=C j+K9 (a,b) pp:=by
      have hm2:(j+1) % p.length<p.length:=Nat.mod_lt _ (by omega)
      refine⟨(j+1) % p.length,p[j],p[(j+1) % p.length],hm2,?_,q9 hjt,q9 hm2,?_⟩
      ·rw[jr (by omega)];simp
      ·rw[hC,hC,Q59 hjt,Qj3,Jr,Q42];omega
     obtain⟨_,ha'⟩:=q8.1 ha
     obtain⟨_,hb'⟩:=q8.1 hb
     have hp0:¬ p=[]:=by rintro rfl;simp at hjt
     have hcc:=hc a b pp (hpt a (qb ha)) (hpt b (qb hb)) hp
     have e1:a.enc=V.a [V.i .i64 a.x,V.i .i64 a.y]:=rfl
     have e2:b.enc=V.a [V.i .i64 b.x,V.i .i64 b.y]:=rfl
     rw[e1,e2,e3]at hcc
     have hcb:=Qk4 (a,b) pp
     generalize K9 (a,b) pp=c at *
     simp (disch:=omega) [go_sem,Qb,psV,hjt,ha,ha',hb,hb',hj2,hrem,hp0,P2.cs,Q0]
     refine Qg hcc ?_
     simp (disch:=omega) [go_sem,Qb,psV,P2.cs,Q0]
     exact⟨j+1,by omega,by omega,hCs.symm,by omega⟩
end
def Qsy (p:P2):Prop:=(-4096<=p.x/\p.x<4096)/\-4096<=p.y/\p.y<4096
def InRC (P:Program) (f:FuncId):Prop:=∀p:P2,Qsy p->CallIs P f [p.enc] (.b true)
def Q41 (p q:P2):Bool:=decide (p.y<q.y) || (decide (p.y=q.y) && decide (p.x<q.x))
def Q7e (P:Program) (f:FuncId):Prop:=∀p q:P2,Q41 q p=true->CallIs P f [p.enc,q.enc] (.b false)
def Qih (P:Program) (f:FuncId):Prop:=∀(l:List Rn) (x:Int),l.length<=200000000->(∀r∈l,r.b<=x)->-4096<=x->x<4096->CallIs P f [Qk l,.i .i64 x] (Qk (Ym l x))
def Qcp (P:Program) (f:FuncId):Prop:=∀l:List P2,l.length<=100000000->l.Pairwise (λp q=>Q41 p q=true)->CallIs P f [psV l] (psV l)
theorem Xq {α β:Type} (f:α->β) (k:List α) (x:β):(k.map f++[x])[k.length]?=some x:=by
 rw[qf (by simp)];simp
theorem Qdx (k:List Rn) (a b:Int) (tl:List (List V)) (ht:∀el∈tl,∀x∈el,x.isD=true):∀el∈k.map Rn.cs++[V.i .i64 a,V.i .i64 b]::tl,∀x∈el,x.isD=true:=by
 intro el hel x hx
 rcases qg.1 hel with h | h
 ·obtain⟨r,hr,rfl⟩:=qo.1 h
  exact I5 k r hr x hx
 ·rcases List.mem_cons.1 h with rfl | h
  ·simp at hx
   rcases hx with rfl | rfl<;>rfl
  ·exact ht el h x hx
theorem Q56 {α β:Type} (f:α->β) (k:List α) (l:List β):(k.map f++l).take k.length=k.map f:=by
 rw[List.take_append_of_le_length (by simp),qe (by simp)]
section
variable {P:Program} (hm:P.follows .mixedOrders=true)
include hm
theorem Q0u {f:FuncId} (hf:Q9 P f L1g.c L1g.r L1g.n):InRC P f:=by
 rintro p ⟨⟨h1,h2⟩,h3,h4⟩
 refine PureC.is (Q6 hm hf (qh rfl) ?_) rfl
 unfold L1g.c
 simp[go_sem,P2.enc,P2.cs,h1,h2,h3,h4,L1g.r]
theorem Q33 {f:FuncId} (hf:Q9 P f L1f.c L1f.r L1f.n):Q7e P f:=by
 intro p q h
 unfold Q41 at h
 simp only[Bool.or_eq_true,Bool.and_eq_true,decide_eq_true_eq]at h
 refine PureC.is (Q6 hm hf (qh rfl) ?_) rfl
 unfold L1f.c
 have h1:¬ p.y<q.y:=by omega
 by_cases h2:p.y=q.y
 ·have h3:¬ p.x<q.x:=by omega
  simp[go_sem,P2.enc,P2.cs,h2,h3,L1f.r]
 ·have h3:(p.y == q.y)=false:=by simpa using h2
  simp[go_sem,P2.enc,P2.cs,h1,h2,h3,L1f.r]
theorem Q7w {f:FuncId} (hf:Q9 P f L1i.c L1i.r L1i.n):Qih P f:=by
 intro l x hl hb h1 h2
 refine PureC.is (Q6 hm hf (qh rfl) ?_) rfl
 unfold L1i.c
 rcases Y7 l with rfl | ⟨k,r,rfl⟩
 ·rw[Kn]
  simp (disch:=omega) [go_sem,Qk,Q0,Rn.cs,L1i.r]
  done
 ·rw[Un]
  have hrb:=hb r (by simp)
  have hkl:k.length<=200000000:=by rw[j7]at hl;omega
  have hq:(k++[r])[k.length]?=some r:=by rw[qf (Nat.le_refl _)];simp
  obtain⟨_,hq'⟩:=q8.1 hq
  by_cases he:r.b=x
  ·rw[if_pos he]
   simp (disch:=omega) [go_sem,Qk,Xq,Q56,Q0,Rn.cs,show ¬ x<r.b by omega,he,L1i.r]
   have e1:List.take (k.length+1) (k.map Rn.cs++[[V.i .i64 r.a,V.i .i64 (x+1)]])=k.map Rn.cs++[[V.i .i64 r.a,V.i .i64 (x+1)]]:=qe (by simp)
   refine⟨⟨by omega,by omega⟩,⟨by omega,by omega⟩,?_⟩
   rw[e1,if_pos (Qdx k _ _ [] (by simp))];rfl
  ·rw[if_neg he]
   have hxb:(x == r.b)=false:=by simpa using λh:x=r.b=>he h.symm
   simp (disch:=omega) [go_sem,Qk,Xq,Q56,Q0,Rn.cs,show ¬ x<r.b by omega,show ¬ x=r.b by omega,hxb,L1i.r]
   have e1:List.take (k.length+1) (k.map Rn.cs++[[V.i .i64 r.a,V.i .i64 r.b]])=k.map Rn.cs++[[V.i .i64 r.a,V.i .i64 r.b]]:=qe (by simp)
   have e2:List.take (k.length+1+1) (k.map Rn.cs++[[V.i .i64 r.a,V.i .i64 r.b],[V.i .i64 x,V.i .i64 (x+1)]])=k.map Rn.cs++[[V.i .i64 r.a,V.i .i64 r.b],[V.i .i64 x,V.i .i64 (x+1)]]:=qe (by simp)
   refine⟨⟨by omega,by omega⟩,⟨by omega,by omega⟩,?_⟩
   rw[e1,j6,show [[V.i .i64 r.a,V.i .i64 r.b]]++[[V.i .i64 x,V.i .i64 (x+1)]]=[[V.i .i64 r.a,V.i .i64 r.b],[V.i .i64 x,V.i .i64 (x+1)]] from rfl,e2,if_pos (Qdx k _ _ _ (by simp[V.isD]))];rfl
theorem Q32 {f fb:FuncId} (hf:Q9 P f (L1h.c fb) L1h.r L1h.n) (hb:Q7e P fb):Qcp P f:=by
 intro l hl hp
 refine PureC.is (Q6 hm hf (qh rfl) ?_) rfl
 unfold L1h.c
 simp (disch:=omega) [go_sem,psV]
 refine⟨⟨by omega,by omega⟩,?_⟩
 refine Qc (α:=Nat) (λi=>1<=i/\(i<=l.length∨i=1))
  (λi=>⟨[(3,.own 0 1 0 l.length),(4,.i .i64 i)],[.arr 1 2 (l.map P2.cs)]⟩)
  (λi=>l.length-i) 1 ⟨Nat.le_refl _,.inr rfl⟩ ?_ ?_
 ·simp[go_sem]
  exact λa _=>of_eq_true (J8 a _)
 ·rintro i ⟨hi1,hi2⟩
  by_cases hlt:i<l.length
  ·have hq:l[i]?=some l[i]:=q9 hlt
   have hr:l[i-1]?=some l[i-1]:=q9 (by omega)
   have hbf:=j8.1 hp (i-1) i (by omega) hlt (by omega)
   have hcall:=hb l[i] l[i-1] hbf
   obtain⟨j,rfl⟩:∃j,i=j+1:=⟨i-1,by omega⟩
   simp only[Nat.add_sub_cancel]at hr hcall
   have hj:j<l.length:=by omega
   have hlz:(j:Int)+1<(l.length:Int):=by omega
   generalize l[j+1]=p at *
   generalize l[j]=q at *
   obtain⟨_,hq'⟩:=q8.1 hq
   obtain⟨_,hr'⟩:=q8.1 hr
   simp only[P2.enc,P2.cs]at hcall
   simp (disch:=omega) [go_sem,hlt,hlz,Q0]
   refine Qc (α:=Unit) (λ_=>True)
    (λ_=>⟨[(3,.own 0 1 0 l.length),(4,.i .i64 ((j:Int)+1)),(5,.i .i64 ((j:Int)+1))],[.arr 1 2 (l.map P2.cs)]⟩)
    (λ_=>0) () trivial ?_ ?_
   ·simp[go_sem]
    exact λa _=>of_eq_true (J8 a _)
   ·intro _ _
    simp (disch:=omega) [go_sem,hlt,hlz,hj,hq,hq',hr,hr',P2.cs,Q0]
    refine⟨by omega,Qg hcall ?_⟩
    simp (disch:=omega) [go_sem,Q0]
    exact⟨j+2,⟨by omega,by omega⟩,by omega,by omega,λa _=>of_eq_true (J8 a _)⟩
  ·have hd:∀p∈l,∀y∈p.cs,y.isD=true:=λp _ y hy=>by
    simp[P2.cs]at hy
    rcases hy with rfl | rfl<;>rfl
   have ht:List.take l.length (l.map P2.cs)=l.map P2.cs:=qe (by simp)
   simp (disch:=omega) [go_sem,hlt,ht,L1h.r,psV]
   rw[if_pos hd];rfl
end
def ofS (g:List Rw) (p:P2):List Rw:=match g.getLast? with
 | some w=>if w.y=p.y then g.dropLast++[⟨w.y,Ym w.rs p.x⟩] else g++[⟨p.y,Ym [] p.x⟩]
 | none=>g++[⟨p.y,Ym [] p.x⟩]
def ofL (l:List P2):List Rw:=l.foldl ofS []
theorem Q6b (l:List P2) (p:P2):ofL (l++[p])=ofS (ofL l) p:=by simp[ofL]
theorem Qbe (p:P2):ofS [] p=[⟨p.y,Ym [] p.x⟩]:=rfl
theorem Qbf (g:List Rw) (w:Rw) (p:P2):ofS (g++[w]) p=if w.y=p.y then g++[⟨w.y,Ym w.rs p.x⟩] else g++[w]++[⟨p.y,Ym [] p.x⟩]:=by
 unfold ofS
 rw[List.getLast?_concat]
 simp
structure OfI (g:List Rw) (l:List P2):Prop where
 v:RgV g
 mem:∀y x,Xx g y x↔(⟨x,y⟩:P2)∈l
 lst:∀g' w,g=g'++[w]->∀r∈w.rs,∃p∈l,p.y=w.y/\r.b<=p.x+1
 row:∀w∈g,∃p∈l,p.y=w.y
 len:∀w∈g,w.rs.length<=l.length
theorem Qld (l:List Rn) (x:Int):(Ym l x).length<=l.length+1:=by
 rcases Y7 l with rfl | ⟨k,r,rfl⟩
 ·rw[Kn];simp
 ·rw[Un]
  split<;>simp
theorem RgV.snocW {g:List Rw} {w:Rw} (hg:RgV g) (hw:RnsV w.rs) (hn:w.rs≠[]) (ha:∀u∈g,u.y<w.y):RgV (g++[w]):=by
 refine⟨λu hu=>?_,λu hu=>?_,?_⟩
 ·rcases qg.1 hu with h | h
  ·exact hg.rs u h
  ·rw[qn.1 h];exact hw
 ·rcases qg.1 hu with h | h
  ·exact hg.ne u h
  ·rw[qn.1 h];exact hn
 ·rw[jg]
  exact⟨hg.asc,by simp,λu hu v hv=>by rw[qn.1 hv];exact ha u hu⟩
theorem Q6p {g k:List Rw} {y x:Int}:Xx (g++k) y x↔Xx g y x∨Xx k y x:=by
 unfold Xx
 constructor
 ·rintro⟨w,hw,h⟩
  rcases qg.1 hw with h1 | h1
  ·exact .inl ⟨w,h1,h⟩
  ·exact .inr ⟨w,h1,h⟩
 ·rintro (⟨w,hw,h⟩ | ⟨w,hw,h⟩)
  ·exact⟨w,qg.2 (.inl hw),h⟩
  ·exact⟨w,qg.2 (.inr hw),h⟩
theorem Q6o {w:Rw} {y x:Int}:Xx [w] y x↔w.y=y/\Qj w.rs x:=by
 unfold Xx
 simp
theorem Qdy (l:List Rn) (x:Int):Ym l x≠[]:=by
 rcases Y7 l with rfl | ⟨k,r,rfl⟩
 ·rw[Kn];simp
 ·rw[Un]
  split<;>simp
theorem OfI.nil:OfI [] []:=⟨RgV.nil,λy x=>by simp[Xx],by simp,by simp,by simp⟩
theorem OfI.step {g:List Rw} {l:List P2} (h:OfI g l) {p:P2} (hp:∀q∈l,Q41 q p=true):OfI (ofS g p) (l++[p]):=by
 have hb:∀q∈l,q.y<p.y∨(q.y=p.y/\q.x<p.x):=λq hq=>by
  have:=hp q hq
  unfold Q41 at this
  simpa using this
 have hnew:∀k:List Rw,RgV k->(∀u∈k,u.y<p.y)->(∀y x,Xx k y x↔(⟨x,y⟩:P2)∈l)->(∀u∈k,∃q∈l,q.y=u.y)->(∀w∈k,w.rs.length<=l.length)->OfI (k++[⟨p.y,Ym [] p.x⟩]) (l++[p]):=by
  intro k h1 h2 h3 h4 h5
  obtain⟨s1,s2,s3⟩:=Q4t (x:=p.x) RnsV.nil (by simp)
  refine⟨h1.snocW s1 (show Ym [] p.x≠[] from Qdy _ _) h2,λy x=>?_,λg' w hw r hr=>?_,λw hw=>?_,λw hw=>?_⟩
  ·rw[Q6p,h3,Q6o,qg,qn,s3]
   simp only[Qm,false_or]
   constructor
   ·rintro (h | ⟨h,h'⟩)
    ·exact .inl h
    ·right;cases p;simp only at h h' ⊢;rw[h,h']
   ·rintro (h | h)
    ·exact .inl h
    ·right;rw[<- h];exact⟨rfl,rfl⟩
  ·obtain⟨_,h7⟩:=List.append_inj' hw rfl
   simp only[List.cons.injEq,and_true]at h7
   subst h7
   exact⟨p,by simp,rfl,s2 r hr⟩
  ·rcases qg.1 hw with h | h
   ·obtain⟨q,hq,he⟩:=h4 w h
    exact⟨q,by simp[hq],he⟩
   ·rw[qn.1 h]
    exact⟨p,by simp,rfl⟩
  ·rw[j7]
   rcases qg.1 hw with h | h
   ·have:=h5 w h;omega
   ·rw[qn.1 h,Kn];simp
 rcases Y7 g with rfl | ⟨k,w,rfl⟩
 ·rw[Qbe]
  exact hnew [] RgV.nil (by simp) h.mem (by simp) (by simp)
 ·rw[Qbf]
  have hk:RgV k:=⟨λu hu=>h.v.rs u (by simp[hu]),λu hu=>h.v.ne u (by simp[hu]),(jg.1 h.v.asc).1⟩
  have hlt:=(jg.1 h.v.asc).2.2
  obtain⟨qw,hqw,hqy⟩:=h.row w (by simp)
  have hwy:w.y<=p.y:=by have:=hb qw hqw;omega
  split
  ·rename_i he
   have hrb:∀r∈w.rs,r.b<=p.x:=λr hr=>by
    obtain⟨q,hq,h1,h2⟩:=h.lst k w rfl r hr
    have:=hb q hq
    omega
   obtain⟨s1,s2,s3⟩:=Q4t (h.v.rs w (by simp)) hrb
   refine⟨hk.snocW s1 (show Ym w.rs p.x≠[] from Qdy _ _) λu hu=>hlt u hu w (by simp),λy x=>?_,λg' w' hw r hr=>?_,λu hu=>?_,λu hu=>?_⟩
   ·have hm:=h.mem y x
    rw[Q6p,Q6o]at hm
    rw[Q6p,Q6o,qg,qn,<- hm]
    simp only[s3]
    constructor
    ·rintro (h1 | ⟨h1,h2 | h2⟩)
     ·exact .inl (.inl h1)
     ·exact .inl (.inr ⟨h1,h2⟩)
     ·right;cases p;simp only at he h2 ⊢;rw[<- h1,he,h2]
    ·rintro ((h1 | h1) | h1)
     ·exact .inl h1
     ·exact .inr ⟨h1.1,.inl h1.2⟩
     ·right;rw[<- h1]at he ⊢;exact⟨he,.inr rfl⟩
   ·obtain⟨_,h7⟩:=List.append_inj' hw rfl
    simp only[List.cons.injEq,and_true]at h7
    subst h7
    exact⟨p,by simp,he.symm,s2 r hr⟩
   ·rcases qg.1 hu with h1 | h1
    ·obtain⟨q,hq,h2⟩:=h.row u (by simp[h1])
     exact⟨q,by simp[hq],h2⟩
    ·rw[qn.1 h1]
     exact⟨p,by simp,he.symm⟩
   ·rw[j7]
    rcases qg.1 hu with h1 | h1
    ·have:=h.len u (by simp[h1]);omega
    ·rw[qn.1 h1]
     have:=Qld w.rs p.x
     have:=h.len w (by simp)
     simp only[List.length_cons,List.length_nil]
     omega
  ·rename_i he
   refine hnew (k++[w]) h.v (λu hu=>?_) h.mem h.row h.len
   rcases qg.1 hu with h1 | h1
   ·have:=hlt u h1 w (by simp);omega
   ·rw[qn.1 h1];omega
theorem Qh8 (l:List P2) (hp:l.Pairwise λp q=>Q41 p q=true):∀k,k<=l.length->OfI (ofL (l.take k)) (l.take k)
 | 0,_=>OfI.nil
 | k+1,h=>by
   have hq:l[k]?=some l[k]:=q9 (by omega)
   rw[Qa hq,Q6b]
   refine (Qh8 l hp k (by omega)).step λq hq'=>?_
   obtain⟨i,hi⟩:=qq hq'
   have hil:=(q8.1 hi).1
   rw[qv]at hil
   rw[jf,if_pos (by omega)]at hi
   obtain⟨hi1,hi2⟩:=q8.1 hi
   rw[<- hi2]
   exact j8.1 hp i k hi1 (by omega) (by omega)
theorem CallIs.narg {P:Program} {f:FuncId} {sz:Nat} {rest:List V} {r:V} (h:CallIs P f (.l sz []::rest) r):CallIs P f (.nil::rest) r:=λhh J m w cargs hr hp =>
 h hh J m w cargs hr (LeL.pw (R:=Le) (Q:=RV J m w) (λu v c h1 h2=>h1.rv h2) (show LeL Le (.nil::rest) (.l sz []::rest) from ⟨.inl (.inl (Le0.nil sz)),LeL.refl Le.refl _⟩) hp)
def OfC (P:Program) (f:FuncId):Prop:=∀l:List P2,l.length<=100000000->(∀p∈l,Qsy p)->l.Pairwise (λp q=>Q41 p q=true)->CallIs P f [psV l] (.t [rgV (ofL l),.i .i64 0])
theorem ofS_len (g:List Rw) (p:P2):(ofS g p).length<=g.length+1:=by
 rcases Y7 g with rfl | ⟨k,w,rfl⟩
 ·rw[Qbe];simp
 ·rw[Qbf]
  split<;>simp
theorem Qjk (l:List P2):∀k,k<=l.length->(ofL (l.take k)).length<=k
 | 0,_=>by simp[ofL]
 | k+1,h=>by
   have hq:l[k]?=some l[k]:=q9 (by omega)
   rw[Qa hq,Q6b]
   have:=ofS_len (ofL (l.take k)) l[k]
   have:=Qjk l k (by omega)
   omega
theorem Ww {α β:Type} (f:α->β) (k:List α) (x y:β):(k.map f++[x]).set k.length y=k.map f++[y]:=by
 have:=jp (s:=k.map f) (t:=[x]) (x:=y) k.length (by simp)
 rw[this];simp
section
variable {P:Program} (hm:P.follows .mixedOrders=true)
include hm
theorem Qe8 {f fi fs fw:FuncId} (hf:Q9 P f (L1d.c fi fs fw) L1d.r L1d.n) (hi:InRC P fi) (hs:Qcp P fs) (hw:Qih P fw):OfC P f:=by
 intro l hl hc hp
 have hsc:=hs l (by omega) hp
 refine PureC.is (Q6 hm hf (qh rfl) ?_) rfl
 unfold L1d.c
 simp (disch:=omega) [go_sem,psV]
 refine Qc (α:=Nat) (λi=>i<=l.length)
  (λi=>⟨[(0,psV l),(2,.p 0 1 0 0),(4,.i .i64 i)],[.arr 1 1 [[.nil]]]⟩)
  (λi=>l.length-i) 0 (Nat.zero_le _) ?_ ?_
 ·simp[go_sem,psV]
 intro i hil
 by_cases hie:i=l.length
 case neg =>
  have hlt:i<l.length:=by omega
  have hq:l[i]?=some l[i]:=q9 hlt
  have hci:=hi l[i] (hc _ (qb hq))
  generalize l[i]=p at *
  obtain⟨_,hq'⟩:=q8.1 hq
  simp only[P2.enc,P2.cs]at hci
  simp (disch:=omega) [go_sem,psV,hlt,hq,hq',P2.cs,Q0]
  refine Q4 hci ?_
  simp (disch:=omega) [go_sem,psV,Q0]
  exact⟨i+1,by omega,by omega,by omega⟩
 subst hie
 simp (disch:=omega) [go_sem,psV]
 refine Q4 hsc ?_
 simp (disch:=omega) [go_sem,psV]
 have hok:=λk hk=>Qh8 l hp k hk
 have hlen:=λk hk=>Qjk l k hk
 obtain⟨G,hG⟩:∃G:Nat->List Rw,∀i,G i=ofL (l.take i):=⟨_,λ_=>rfl⟩
 have hG0:G 0=[]:=by rw[hG];rfl
 have hGn:G l.length=ofL l:=by rw[hG,qi]
 refine Qx [.c 1 0 0 2] (α:=Nat) (λi=>i<=l.length)
  (λi=>⟨[(0,psV l),(2,.p 0 1 0 0),(5,.p 1 1 0 0),(6,.i .i64 i)],[.arr 1 1 [[.nil]],.arr 1 1 [[.own 2 ((G i).length+1) 0 (G i).length]],.arr ((G i).length+1) 2 ((G i).map Rw.cs)]⟩)
  (λi=>l.length-i) 0 (Nat.zero_le _) ?_ ?_
 ·simp[go_sem,psV,hG0]
  done
 ·intro i hil
  by_cases hie:i=l.length
  ·subst hie
   rw[hGn]
   have hd:=Qan (ofL l)
   have ht:List.take (ofL l).length ((ofL l).map Rw.cs)=(ofL l).map Rw.cs:=qe (by simp)
   simp (disch:=omega) [go_sem,psV,ht,L1d.r]
   rw[if_pos hd];rfl
  ·have hlt:i<l.length:=by omega
   have hq:l[i]?=some l[i]:=q9 hlt
   have hGs:G (i+1)=ofS (G i) l[i]:=by rw[hG,hG,Qa hq,Q6b]
   have hcb:=hc _ (qb hq)
   have hGl:=hlen i hil
   have hI:=hok i hil
   rw[<- hG]at hGl hI
   have hbf:∀q∈l.take i,Q41 q l[i]=true:=λq hq'=>by
    obtain⟨j,hj⟩:=qq hq'
    have hjl:=(q8.1 hj).1
    rw[qv]at hjl
    rw[jf,if_pos (by omega)]at hj
    obtain⟨hj1,hj2⟩:=q8.1 hj
    rw[<- hj2]
    exact j8.1 hp j i hj1 hlt (by omega)
   generalize l[i]=p at *
   obtain⟨_,hq'⟩:=q8.1 hq
   have hw0:=CallIs.narg (hw [] p.x (by simp) (by simp) hcb.1.1 hcb.1.2)
   rcases Y7 (G i) with h0 | ⟨k,w,h0⟩
   ·rw[h0,Qbe]at hGs
    rw[h0]
    simp (disch:=omega) [go_sem,psV,hlt,hq,hq',P2.cs,Q0]
    refine Qg hw0 ?_
    simp (disch:=omega) [go_sem,psV,Qk,V.cells,V.okA,Q0]
    exact⟨i+1,by omega,by omega,by omega,⟨by rw[hGs];rfl,by rw[hGs];rfl⟩,⟨by rw[hGs];rfl,by rw[hGs];simp[Rw.cs,Qk]⟩,I4 _ _⟩
   ·rw[h0,Qbf]at hGs
    rw[h0]at hGl hI
    have hz0:((k.length:Int)+1 == 0)=false:=by
     simp only[beq_eq_false_iff_ne,ne_eq];omega
    have hGl2:(G i).length=k.length+1:=by rw[h0];simp
    rw[j7]at hGl
    simp only[List.length_cons,List.length_nil]at hGl
    have hkl:k.length<=100000000:=by omega
    by_cases hy:w.y=p.y
    ·rw[if_pos hy]at hGs
     have hwl:=hI.len w (by simp)
     rw[qv]at hwl
     have hrb:∀r∈w.rs,r.b<=p.x:=λr hr=>by
      obtain⟨q,hq,h1,h2⟩:=hI.lst k w rfl r hr
      have:=hbf q hq
      unfold Q41 at this
      simp at this
      omega
     have hwc:=hw w.rs p.x (by omega) hrb hcb.1.1 hcb.1.2
     rw[h0]
     simp (disch:=omega) [go_sem,psV,hlt,hq,hq',P2.cs,Xq,Ww,Rw.cs,hy,hz0,Q0]
     refine Qg hwc ?_
     simp (disch:=omega) [go_sem,psV,Qk,V.cells,V.okA,Xq,Ww,Q0]
     exact⟨i+1,by omega,by omega,by omega,by rw[hGs];simp,⟨by rw[hGs];simp,by rw[hGs];simp[Rw.cs,Qk,hy]⟩,I4 _ _⟩
    ·rw[if_neg hy,<- h0]at hGs
     have hyb:(w.y != p.y)=true:=by simpa using hy
     have hg1:((G i).map Rw.cs)[k.length]?=some [V.i .i64 w.y,Qk w.rs]:=by rw[h0,qx];exact Xq Rw.cs k _
     have hg2:∀x,((G i).map Rw.cs++[x])[k.length+1]?=some x:=λx=>by rw[<- hGl2];exact Xq Rw.cs (G i) x
     have hg3:∀x y,((G i).map Rw.cs++[x]).set (k.length+1) y=(G i).map Rw.cs++[y]:=λx y=>by rw[<- hGl2];exact Ww Rw.cs (G i) x y
     have hg4:List.take (k.length+1) ((G i).map Rw.cs)=(G i).map Rw.cs:=qe (by rw[List.length_map];omega)
     rw[hGl2]
     clear h0
     generalize G i=gg at *
     simp (disch:=omega) [go_sem,psV,hlt,hq,hq',P2.cs,hg1,hg2,hg3,hg4,hy,hyb,hz0,Q0]
     refine⟨⟨by omega,by omega,by omega⟩,by omega,Qg hw0 ?_⟩
     simp (disch:=omega) [go_sem,psV,Qk,V.cells,V.okA,hg1,hg2,hg3,hg4,Q0]
     exact⟨by omega,i+1,by omega,by omega,by omega,by rw[hGs];simp;omega,⟨by rw[hGs];simp;omega,by rw[hGs];simp[Rw.cs,Qk]⟩,I4 _ _⟩
end
section
variable {P:Program} (hm:P.follows .mixedOrders=true)
include hm
theorem Q5b {f:FuncId} (hf:Q9 P f L1l.c L1l.r L1l.n):Ec P f:=by
 intro ps k hps
 have hpl:=hps.num
 refine PureC.is (Q6 hm hf (qh rfl) ?_) rfl
 unfold L1l.c
 by_cases hlo:k<32
 ·have he:Za k 32 1024=false:=by unfold Za;simp[show ¬ 32<=k by omega]
  simp[go_sem,hlo,he,L1l.r]
 by_cases hhi:1024<k
 ·have he:Za k 32 1024=false:=by unfold Za;simp[show ¬ k<=1024 by omega]
  simp[go_sem,hlo,hhi,he,L1l.r]
 have ht:k.tmod 2=k % 2:=jr (by omega)
 by_cases hev:k % 2=0
 case neg =>
  have he:Za k 32 1024=false:=by unfold Za;simp[hev]
  have hb:(k.tmod 2 != 0)=true:=by rw[ht];simpa using hev
  have w:=Q0 (z:=k.tmod 2) (by omega) (by omega)
  rw[ht]at w hb
  simp[go_sem,hlo,hhi,ht,w,hb,hev,he,L1l.r]
 have he:Za k 32 1024=true:=by unfold Za;simp[hev];omega
 simp[go_sem,hlo,hhi,ht,hev,he,Qb]
 obtain⟨tot,htot⟩:∃tot:Nat->Nat,∀i,tot i=((ps.take i).flatMap Qs).length:=⟨_,λ_=>rfl⟩
 have htot0:tot 0=0:=by rw[htot];rfl
 refine Qc (α:=Nat) (λi=>i<=ps.length)
  (λi=>⟨[(0,Qb ps),(5,.i .i64 (tot i)),(6,.i .i64 i)],[]⟩)
  (λi=>ps.length-i) 0 (Nat.zero_le _) ?_ ?_
 ·simp[go_sem,Qb,htot0]
 ·intro i hi
  by_cases hil:i=ps.length
  case neg =>
   have hlt:i<ps.length:=by omega
   have hq:ps[i]?=some ps[i]:=q9 hlt
   have hln:=hps.len hq
   have hft:=Q6z (ps.take i) ps[i]
   rw[<- Qa hq,<- htot,<- htot]at hft
   rw[<- htot]at hln
   generalize ps[i]=p at *
   obtain⟨_,hq'⟩:=q8.1 hq
   simp (disch:=omega) [go_sem,Qb,psV,hlt,hq,hq',show ¬ (16384:Int)<(tot i:Int)+p.length by omega,Q0]
   exact⟨i+1,by omega,by omega,by omega,by omega⟩
  subst hil
  simp[go_sem,Qb]
  refine Qc (α:=Nat) (λi=>i<=ps.length)
   (λi=>⟨[(0,Qb ps),(7,.i .i64 i)],[]⟩)
   (λi=>ps.length-i) 0 (Nat.zero_le _) ?_ ?_
  ·simp[go_sem,Qb]
  intro i hi
  by_cases hil:i=ps.length
  ·subst hil
   simp[go_sem,Qb,L1l.r]
  have hlt:i<ps.length:=by omega
  have hq:ps[i]?=some ps[i]:=q9 hlt
  have hln:=hps.len hq
  have hpt:∀v∈ps[i],_:=λv hv=>hps.pt (qb hq) hv
  generalize ps[i]=p at *
  obtain⟨_,hq'⟩:=q8.1 hq
  simp (disch:=omega) [go_sem,Qb,psV,hlt,hq,hq',Q0]
  refine Qc (α:=Nat) (λj=>j<=p.length)
   (λj=>⟨[(0,Qb ps),(7,.i .i64 i),(8,.i .i64 j)],[]⟩)
   (λj=>p.length-j) 0 (Nat.zero_le _) ?_ ?_
  ·simp[go_sem,Qb,psV]
  intro j hj
  by_cases hjl:j=p.length
  ·subst hjl
   simp (disch:=omega) [go_sem,Qb,psV,hlt,hq,hq',Q0]
   exact⟨i+1,by omega,by omega,by omega⟩
  have hjt:j<p.length:=by omega
  have hv:p[j]?=some p[j]:=q9 hjt
  have hvb:=hpt _ (qb hv)
  generalize p[j]=v at *
  obtain⟨_,hv'⟩:=q8.1 hv
  simp (disch:=omega) [go_sem,Qb,psV,hlt,hq,hq',hjt,hv,hv',P2.cs,show ¬ v.x < -65536 by omega,show ¬ 65536<v.x by omega,show ¬ v.y < -65536 by omega,show ¬ 65536<v.y by omega,Q0]
  exact⟨j+1,by omega,by omega,by omega⟩
end
end Go.Abs
