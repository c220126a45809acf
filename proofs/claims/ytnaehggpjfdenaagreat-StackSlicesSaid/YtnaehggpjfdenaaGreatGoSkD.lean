/- Part of the library on which the proof stands: an abstract machine, its values and its soundness against the model; or what functions of the program do to such values. -/
import Derived.Test.YtnaehggpjfdenaaGreatGoSl
import Derived.Test.YtnaehggpjfdenaaGreatGoStC
import Derived.Test.YtnaehggpjfdenaaGreatGoSkB
import Derived.Test.YtnaehggpjfdenaaGreatGoStD
import Derived.Test.YtnaehggpjfdenaaGreatGoRevC
set_option linter.unusedVariables false
set_option linter.unusedSimpArgs false
set_option maxHeartbeats 8000000
set_option maxRecDepth 20000
namespace Go.Abs
def Z17 (P:Program) (f:FuncId):Prop:=∀l:List Rn,RnsV l->RnI l->l≠[]->CallIs P f [Q9 l] (.b true)
def Bb (P:Program) (f:FuncId):Prop:=∀g:List Rw,RgV g->RgB g->CallIs P f [rgV g] (.b true)
def InsC (P:Program) (f:FuncId):Prop:=∀(l:List Rn) (x:Int),l.length<=8192->CallIs P f [Q9 l,.i .i64 x] (.b (decide (Qb l x)))
def Z0t (P:Program) (f:FuncId):Prop:=∀(op:Int) (a b:Bool),CallIs P f [.i .i64 op,.b a,.b b] (.b (Xt op a b))
def BoundsC (P:Program) (f:FuncId):Prop:=∀a b:List Rn,a.length<=8192->b.length<=8192->PureC P f [Q9 a,Q9 b] λr=>∃L:List Int,L.Perm (Y1 a++Y1 b)/\L.Pairwise (·<=·)/\r=isV L
def rwL (g:List Rw):V:=.l 2 (g.map Rw.cs)
theorem Ib (l:List Rn):(Y1 l).length=2*l.length:=by
 unfold Y1;rw[List.length_flatMap];simp
 induction l with
 | nil=>rfl
 | cons a l ih=>simp at ih ⊢;omega
theorem Qev (l:List Rn) (r:Rn):Y1 (l++[r])=Y1 l++[r.a,r.b]:=by simp[Y1]
theorem Q7i {l:List Rn} {k:Nat} {r:Rn} (h:l[k]?=some r) (x:Int):Qb (l.take (k+1)) x↔Qb (l.take k) x∨(r.a<=x/\x<r.b):=by
 rw[Q6 h,Yz,inRns_cons];simp[Qj]
section
variable {P:Program} (hm:P.follows .mixedOrders=true)
include hm
theorem Qca {f:FuncId} (hf:Q5 P f L2d.c L2d.r L2d.n):Z17 P f:=by
 intro l hl hb hn;have hll:=hl.len hb;refine PI hm hf ?_;unfold L2d.c;simp[go_sem,Q9];refine Q8 (α:=Nat) (λi=>i<=l.length)
  (λi=>⟨[(0,Q9 l),(3,.i .i64 i)],[]⟩)
  (λi=>l.length-i) 0 (Nat.zero_le _) ?_ ?_
 ·simp[go_sem,Q9]
 intro i hi;by_cases hil:i=l.length
 ·subst hil;have:0<l.length:=jl.2 hn;simp[go_sem,Q9,this,L2d.r]
 have hlt:i<l.length:=by omega
 have hq:l[i]?=some l[i]:=q9 hlt;have h1:=hl.1 _ (qb hq);have h2:=hb _ (qb hq);have hprev:∀j,i=j+1->∃s,l[j]?=some s/\s.b<(l[i]).a:=λj hj=>by
  subst hj;exact⟨l[j],q9 (by omega),j8.1 hl.2 j (j+1) (by omega) hlt (by omega)⟩
 generalize l[i]=r at *
 obtain⟨_,hq'⟩:=q8.1 hq;by_cases hi0:i=0
 ·subst hi0;simp (disch:=omega) [go_sem,Q9,hlt,hq,hq',Rn.cs,show ¬ r.a < -4096 by omega,show ¬ r.b<=r.a by omega,show ¬ 4096<r.b by omega,Q0];exact⟨1,by omega,by omega,by omega⟩
 ·obtain⟨j,rfl⟩:∃j,i=j+1:=⟨i-1,by omega⟩
  obtain⟨s,hs,hsr⟩:=hprev j rfl;obtain⟨hjl,hs'⟩:=q8.1 hs;have hlz:(j:Int)+1<(l.length:Int):=by omega
  have hz0:(0:Int)<=(j:Int)+1:=by omega
  simp (disch:=omega) [go_sem,Q9,hz0,hlt,hlz,hjl,hq,hq',hs,hs',Rn.cs,show ¬ r.a < -4096 by omega,show ¬ r.b<=r.a by omega,show ¬ 4096<r.b by omega,show ¬ r.a<=s.b by omega,Q0];exact⟨j+2,by omega,by omega,by omega⟩
theorem Q96 {f fn:FuncId} (hf:Q5 P f (L29.c fn) L29.r L29.n) (hfn:Z17 P fn):Bb P f:=by
 intro g hg hb;have hll:=hg.len hb;refine PI hm hf ?_;unfold L29.c;simp[go_sem,rgV];refine Q8 (α:=Nat) (λi=>i<=g.length)
  (λi=>⟨[(1,.p 0 1 0 0),(3,.i .i64 i)],[.arr 1 1 [[rwL g]]]⟩)
  (λi=>g.length-i) 0 (Nat.zero_le _) ?_ ?_
 ·simp[go_sem,rwL]
 intro i hi;by_cases hil:i=g.length
 ·subst hil;simp[go_sem,rwL,L29.r]
 have hlt:i<g.length:=by omega
 have hq:g[i]?=some g[i]:=q9 hlt;have h1:=hb.yb hg (qb hq);have hcall:=hfn _ (hg.rs _ (qb hq)) (hb.rnb hg (qb hq)) (hg.ne _ (qb hq));have hprev:∀j,i=j+1->∃s,g[j]?=some s/\s.y<(g[i]).y:=λj hj=>by
  subst hj;exact⟨g[j],q9 (by omega),j8.1 hg.asc j (j+1) (by omega) hlt (by omega)⟩
 generalize g[i]=w at *
 obtain⟨_,hq'⟩:=q8.1 hq;by_cases hi0:i=0
 ·subst hi0;simp (disch:=omega) [go_sem,rwL,hlt,hq,hq',Rw.cs,show ¬ w.y < -4096 by omega,show ¬ 4096<=w.y by omega,Q0];refine Q2 hcall ?_;simp (disch:=omega) [go_sem,rwL,Q0];exact⟨1,by omega,by omega,by omega⟩
 ·obtain⟨j,rfl⟩:∃j,i=j+1:=⟨i-1,by omega⟩
  obtain⟨s,hs,hsr⟩:=hprev j rfl;obtain⟨hjl,hs'⟩:=q8.1 hs;have hlz:(j:Int)+1<(g.length:Int):=by omega
  simp (disch:=omega) [go_sem,rwL,hlt,hlz,hjl,hq,hq',hs,hs',Rw.cs,show ¬ w.y < -4096 by omega,show ¬ 4096<=w.y by omega,show ¬ w.y<=s.y by omega,Q0];refine⟨by omega,Q2 hcall ?_⟩;simp (disch:=omega) [go_sem,rwL,Q0];exact⟨j+2,by omega,by omega,by omega⟩
theorem Q64 {f:FuncId} (hf:Q5 P f L2f.c L2f.r L2f.n):InsC P f:=by
 intro l x hll;refine PI hm hf ?_;unfold L2f.c;simp[go_sem,Q9];refine Q8 (α:=Nat) (λi=>i<=l.length/\¬ Qb (l.take i) x)
  (λi=>⟨[(0,Q9 l),(1,.i .i64 x),(5,.i .i64 i)],[]⟩)
  (λi=>l.length-i) 0 ⟨Nat.zero_le _,by simp[Qj]⟩ ?_ ?_
 ·simp[go_sem,Q9]
 rintro i ⟨hi,hno⟩;by_cases hil:i=l.length
 ·subst hil;rw[qi]at hno
  simp[go_sem,Q9,hno,L2f.r]
 have hlt:i<l.length:=by omega
 have hq:l[i]?=some l[i]:=q9 hlt;have hs:=Q7i hq x;have hmem:=qb hq;generalize l[i]=r at *
 obtain⟨_,hq'⟩:=q8.1 hq;by_cases h1:r.a<=x
 ·by_cases h2:x<r.b
  ·have hin:Qb l x:=⟨r,hmem,h1,h2⟩
   simp (disch:=omega) [go_sem,Q9,hlt,hq,hq',Rn.cs,h1,h2,hin,Q0,L2f.r]
  ·simp (disch:=omega) [go_sem,Q9,hlt,hq,hq',Rn.cs,h1,h2,Q0];exact⟨i+1,⟨by omega,by rw[hs];simp[hno];omega⟩,by omega,by omega⟩
 ·simp (disch:=omega) [go_sem,Q9,hlt,hq,hq',Rn.cs,h1,Q0];exact⟨i+1,⟨by omega,by rw[hs];simp[hno];omega⟩,by omega,by omega⟩
theorem Qc9 {f:FuncId} (hf:Q5 P f L2g.c L2g.r L2g.n):Z0t P f:=by
 intro op a b;refine PI hm hf ?_;unfold L2g.c Xt;by_cases h0:op=0
 ·subst h0;cases a<;>cases b<;>simp[go_sem,L2g.r]
 ·have h0':(op == 0)=false:=by simpa using h0
  by_cases h1:op=1
  ·subst h1;cases a<;>cases b<;>simp[go_sem,L2g.r]
  ·have h1':(op == 1)=false:=by simpa using h1
   cases a<;>cases b<;>simp[go_sem,h0,h0',h1,h1',L2g.r]
end
def iel (x:Int):List V:=[.i .i64 x]
def Qnw (l:List Int) (k i:Nat):Prop:=∀p q (hp:p<q) (hq:q<l.length),q<=i->q≠k->l[p]'(by omega)<=l[q]
theorem Quv {l:List Int} {k i:Nat} (h:Qnw l (k+1) i) (hk:k+1<l.length) (hki:k+1<=i) (hlt:l[k+1]<l[k]'(by omega)):Qnw ((l.set (k+1) (l[k]'(by omega))).set k l[k+1]) k i:=by
 intro p q hp hq0 hqi hqk;have hq:q<l.length:=by simpa using hq0
 simp only[List.getElem_set];by_cases q1:q=k+1
 ·subst q1;rw[if_neg (show ¬ k=k+1 by omega),if_pos rfl];by_cases p1:p=k
  ·subst p1;rw[if_pos rfl];omega
  ·rw[if_neg (show ¬ k=p by omega),if_neg (show ¬ k+1=p by omega)];exact h p k (by omega) (by omega) (by omega) (by omega)
 ·rw[if_neg (show ¬ k=q by omega),if_neg (show ¬ k+1=q by omega)];by_cases p1:p=k
  ·subst p1;rw[if_pos rfl];exact h (p+1) q (by omega) hq hqi q1
  ·rw[if_neg (show ¬ k=p by omega)];by_cases p2:k+1=p
   ·rw[if_pos p2];exact h k q (by omega) hq hqi q1
   ·rw[if_neg p2];exact h p q hp hq hqi q1
theorem Qdq:∀(l:List Int) (k:Nat) (hk:k+1<l.length),((l.set (k+1) (l[k]'(by omega))).set k l[k+1]).Perm l
 | [],_,h=>by simp at h
 | [_],_,h=>by simp at h
 | a::b::l,0,_=>by simpa using List.Perm.swap a b l
 | a::b::l,k+1,h=>by
   have:=Qdq (b::l) k (by simpa using h);simp only[List.set_cons_succ,List.getElem_cons_succ]at this ⊢;exact this.cons a
theorem Quw {l:List Int} {k i:Nat} (h:Qnw l k i) (hs:k=0∨∃(h1:k<l.length),l[k-1]'(by omega)<=l[k]):∀p q (hp:p<q) (hq:q<l.length),q<=i->l[p]'(by omega)<=l[q]:=by
 intro p q hp hq hqi;by_cases hqk:q=k
 ·subst hqk;rcases hs with h0 | ⟨h1,h2⟩
  ·omega
  ·by_cases hpk:p=q-1
   ·subst hpk;exact h2
   ·have:=h p (q-1) (by omega) (by omega) (by omega) (by omega);omega
 ·exact h p q hp hq hqi hqk
theorem Xe (L:List Int) (n:Nat):∀a∈L,∀x∈iel a,x.cl n=true:=λa _ x hx=>by
 simp[iel]at hx
 subst hx;simp[V.cl,V.cl1,V.cl0]
theorem Qh1 (L:List Int):∀a∈L,∀x∈iel a,x.isD=true:=λa _ x hx=>by
 simp[iel]at hx
 subst hx
 rfl
theorem Qxn (L:List Int) (N:Nat):∀x∈List.take N (L.map iel),∀y∈x,y.isD=true:=λx hx y hy=>by
 obtain⟨a,ha,rfl⟩:=qo.1 (jp hx);exact Qh1 L a ha y hy
section
variable {P:Program} (hm:P.follows .mixedOrders=true)
include hm
theorem Q65 {f:FuncId} (hf:Q5 P f L2b.c L2b.r L2b.n):BoundsC P f:=by
 intro a b ha hb;refine Wg hm hf (qh rfl) ?_;unfold L2b.c;simp[go_sem,Q9];obtain⟨T,hT⟩:∃T:Nat->List Int,∀i,T i=Y1 (a.take i):=⟨_,λ_=>rfl⟩
 have hT0:T 0=[]:=by rw[hT];rfl
 have hTn:T a.length=Y1 a:=by rw[hT,qi]
 have hTl:∀i,i<=a.length->(T i).length=2*i:=λi hi=>by rw[hT,Ib,qv];omega
 refine Qi [.t 5 1] (α:=Nat) (λi=>i<=a.length)
  (λi=>⟨[(0,Q9 a),(1,Q9 b),(5,.own 0 (i+1) 0 (T i).length),(6,.i .i64 i)],[.arr (i+1) 1 ((T i).map iel)]⟩)
  (λi=>a.length-i) 0 (Nat.zero_le _) ?_ ?_
 ·simp[go_sem,Q9,hT0]
 intro i hi;by_cases hil:i=a.length
 case neg =>
  have hlt:i<a.length:=by omega
  have hq:a[i]?=some a[i]:=q9 hlt;have hTs:T (i+1)=T i++[(a[i]).a,(a[i]).b]:=by rw[hT,hT,Q6 hq,Qev]
  have hTi:=hTl i hi;generalize a[i]=r at *
  obtain⟨_,hq'⟩:=q8.1 hq;have ht:List.take (T i).length ((T i).map iel)=(T i).map iel:=qe (by simp);generalize T i=L at *
  simp (disch:=omega) [go_sem,Q9,hlt,hq,hq',Rn.cs,ht,Q0];exact⟨⟨by omega,by omega⟩,i+1,by omega,by omega,⟨⟨rfl,by rw[hTs];simp⟩,by omega⟩,⟨rfl,by rw[hTs];simp[iel]⟩,Xe _ _⟩
 subst hil;rw[hTn];obtain⟨S,hS⟩:∃S:Nat->List Int,∀j,S j=Y1 a++Y1 (b.take j):=⟨_,λ_=>rfl⟩
 have hS0:S 0=Y1 a:=by rw[hS];simp[Y1]
 have hSn:S b.length=Y1 a++Y1 b:=by rw[hS,qi]
 have hSl:∀j,j<=b.length->(S j).length=2*a.length+2*j:=λj hj=>by rw[hS,j7,Ib,Ib,qv];omega
 simp (disch:=omega) [go_sem,Q9,Q0];refine Q8 (α:=Nat) (λj=>j<=b.length)
  (λj=>⟨[(1,Q9 b),(5,.own 0 (a.length+j+1) 0 (S j).length),(7,.i .i64 j)],[.arr (a.length+j+1) 1 ((S j).map iel)]⟩)
  (λj=>b.length-j) 0 (Nat.zero_le _) ?_ ?_
 ·simp[go_sem,Q9,hS0];exact Xe _ _
 intro j hj;by_cases hjl:j=b.length
 case neg =>
  have hlt:j<b.length:=by omega
  have hq:b[j]?=some b[j]:=q9 hlt;have hSs:S (j+1)=S j++[(b[j]).a,(b[j]).b]:=by rw[hS,hS,Q6 hq,Qev,j6]
  have hSi:=hSl j hj;generalize b[j]=r at *
  obtain⟨_,hq'⟩:=q8.1 hq;have ht:List.take (S j).length ((S j).map iel)=(S j).map iel:=qe (by simp);generalize S j=L at *
  simp (disch:=omega) [go_sem,Q9,hlt,hq,hq',Rn.cs,ht,Q0];exact⟨⟨by omega,by omega⟩,j+1,by omega,by omega,⟨⟨by omega,by rw[hSs];simp⟩,by omega⟩,⟨by omega,by rw[hSs];simp[iel]⟩,Xe _ _⟩
 subst hjl;have hN:=hSl b.length (Nat.le_refl _);rw[hSn]at hN ⊢
 generalize Y1 a++Y1 b=B at *
 generalize hNN:B.length=N at *
 simp (disch:=omega) [go_sem,Q9,Q0];refine Q8 (α:=List Int × Nat) (λp=>p.1.Perm B/\1<=p.2/\(p.2<=N∨p.2=1)/\Qnw p.1 p.2 p.2)
  (λp=>⟨[(5,.own 0 (a.length+b.length+1) 0 N),(8,.i .i64 p.2)],[.arr (a.length+b.length+1) 1 (p.1.map iel)]⟩)
  (λp=>N-p.2) (B,1) ⟨List.Perm.refl _,Nat.le_refl _,.inr rfl,λp q hp hq h1 h2=>by omega⟩ ?_ ?_
 ·simp[go_sem];exact Xe _ _
 rintro⟨L,i⟩ ⟨hp,h1,h2,h3⟩;simp only at hp h1 h2 h3 ⊢;have hLl:L.length=N:=by rw[hp.length_eq];exact hNN
 by_cases hin:i<N
 ·simp (disch:=omega) [go_sem,hin,Q0];refine Q8 (α:=List Int × Nat) (λp=>p.1.Perm B/\p.2<=i/\Qnw p.1 p.2 i)
   (λp=>⟨[(5,.own 0 (a.length+b.length+1) 0 N),(8,.i .i64 i),(9,.i .i64 p.2)],[.arr (a.length+b.length+1) 1 (p.1.map iel)]⟩)
   (λp=>p.2) (L,i) ⟨hp,Nat.le_refl _,h3⟩ ?_ ?_
  ·simp[go_sem];exact Xe _ _
  rintro⟨M,k⟩ ⟨hp2,h4,h5⟩;simp only at hp2 h4 h5 ⊢;have hMl:M.length=N:=by rw[hp2.length_eq];exact hNN
  have hnext:(k=0∨∃(h1:k<M.length),M[k-1]'(by omega)<=M[k])->Qnw M (i+1) (i+1):=λhs p q hpq hq hqi hqk=>Quw h5 hs p q hpq hq (by omega)
  cases k with
  | zero =>
    have hnx:=hnext (.inl rfl);simp (disch:=omega) [go_sem,Q0];exact⟨M,i+1,⟨hp2,by omega,by omega,hnx⟩,by omega,by omega,rfl,Xe _ _⟩
  | succ k =>
    have hk1:M[k+1]?=some M[k+1]:=q9 (by omega);have hk0:M[k]?=some M[k]:=q9 (by omega);have hsw:=Quv (l:=M) (k:=k) (i:=i) h5 (by omega) h4;have hpe:=Qdq M k (by omega);have hst:M[k]'(by omega)<=M[k+1]->Qnw M (i+1) (i+1):=λhle=>hnext (.inr ⟨by omega,hle⟩)
    generalize M[k+1]=u at *
    generalize M[k]=v at *
    obtain⟨_,hk1'⟩:=q8.1 hk1;obtain⟨_,hk0'⟩:=q8.1 hk0;have hkN:(k:Int)+1<N:=by omega
    have hz0:(0:Int)<=(k:Int)+1:=by omega
    have hkN2:k+1<N:=by omega
    have hkN3:k<N:=by omega
    by_cases hlt:u<v
    ·simp (disch:=omega) [go_sem,iel,hMl,hkN,hz0,hkN2,hkN3,hk1,hk0,hk1',hk0',hlt,Q0];exact⟨(M.set (k+1) v).set k u,k,⟨hpe.trans hp2,by omega,hsw hlt⟩,by omega,rfl,by rw[List.map_set,List.map_set];rfl⟩
    ·simp (disch:=omega) [go_sem,iel,hMl,hkN,hz0,hkN2,hkN3,hk1,hk0,hk1',hk0',hlt,Q0];exact⟨M,i+1,⟨hp2,by omega,by omega,hst (by omega)⟩,by omega,by omega,rfl⟩
 ·simp (disch:=omega) [go_sem,hin,Q0,L2b.r];have ht:List.take N (L.map iel)=L.map iel:=qe (by simp[hLl]);rw[if_pos ⟨by omega,Qxn L N⟩,ht];refine⟨_,rfl,L,hp,?_,rfl⟩;rw[j8];intro p q hp1 hq hpq;exact h3 p q hpq hq (by omega) (by omega)
end
def Q0b (P:Program) (f:FuncId):Prop:=∀n lo hi:Int,0<=lo->CallIs P f [.i .i64 n,.i .i64 lo,.i .i64 hi] (.b (Z1 n lo hi))
def Qo9 (P:Program) (f:FuncId):Prop:=∀top h:Int,top<=9223372036854775807->-9223372036854775808<=top->CallIs P f [.i .i64 top,.i .i64 h] (.t [isV (I1 top h).1,.i .i64 (I1 top h).2])
def Z0r (P:Program) (f:FuncId):Prop:=Qx P f=true/\∀a b c:Int,CallIs P f [.i .i64 a,.i .i64 b,.i .i64 c] (.t [.i .i64 (min a c),.i .i64 (max b c)])
def Qbp (P:Program) (f:FuncId):Prop:=∀l:List V3,l.length<=1000000->CallIs P f [vsV l] (.t [(bLo l).enc,(bHi l).enc,.b (decide (l≠[]))])
def Z0s (P:Program) (f:FuncId):Prop:=∀m:Mesh,m.check=0->CallIs P f [m.enc] (.t [(bLo m.verts).enc,(bHi m.verts).enc,.b (decide (m.verts≠[]))])
def TopC (P:Program) (f:FuncId):Prop:=∀m:Mesh,m.verts.length<=1000000->CallIs P f [m.enc] (.t [.i .i64 (bHi m.verts).z,.i .i64 (bLo m.verts).z])
section
variable {P:Program} (hm:P.follows .mixedOrders=true)
include hm
theorem Q02 {f:FuncId} (hf:Q5 P f L3v.c L3v.r L3v.n):Q0b P f:=by
 intro n lo hi h0;refine PI hm hf ?_;unfold L3v.c Z1;by_cases h1:lo<=n
 ·by_cases h2:n<=hi
  ·have ht:n.tmod 2=n % 2:=jt (by omega);have w:=Q0 (z:=n % 2) (by omega) (by omega);by_cases h3:n % 2=0
   ·simp[go_sem,h1,h2,ht,h3,L3v.r]
   ·have hb:(n % 2 == 0)=false:=by simpa using h3
    simp[go_sem,h1,h2,ht,w,h3,hb,L3v.r]
  ·simp[go_sem,h1,h2,L3v.r]
 ·simp[go_sem,h1,L3v.r]
theorem Qc6 {f:FuncId} (hf:Q5 P f L2t.c L2t.r L2t.n):Q0b P f:=Q02 hm hf
theorem Q37 {f fe:FuncId} (hf:Q5 P f (L3s.c fe) L3s.r L3s.n) (he:Q0b P fe):Qo9 P f:=by
 intro top h ht1 ht2;have hec:=he h 4 1024 (by omega);unfold I1;cases hev:Z1 h 4 1024 with
 | false =>
   rw[hev]at hec
   rw[if_pos rfl];refine CallIs.res (r:=.t [.nil,.i .i64 1]) ?_ (.inr ⟨_,_,rfl,rfl,.inl (Le0.nil 1),Le1.refl _,trivial⟩);refine PI hm hf ?_;unfold L3s.c;simp[go_sem];refine Q2 hec ?_;simp[go_sem,L3s.r]
 | true =>
   rw[hev]at hec
   rw[if_neg (by simp)];have hh:4<=h/\h<=1024/\h % 2=0:=by
    unfold Z1 at hev;simp only[Bool.and_eq_true,decide_eq_true_eq]at hev;omega
   have hq:h.tdiv 2=h / 2:=Int.tdiv_eq_ediv_of_nonneg (by omega);have hlt:=λi:Nat=>Q7y (top:=top) (h:=h) (by omega) (i:=i)
   have hmb:∀i:Nat,i<=257->0<=(i:Int)*h/\(i:Int)*h<=257*1024:=λi hi=>by
    refine⟨Int.mul_nonneg (by omega) (by omega),?_⟩;exact Int.le_trans (jn (show (i:Int)<=257 by omega) (by omega)) (by omega)
   generalize Qd9 top h=N at *
   by_cases hN:256<N
   ·rw[if_pos hN];refine CallIs.res (r:=.t [.nil,.i .i64 2]) ?_ (.inr ⟨_,_,rfl,rfl,.inl (Le0.nil 1),Le1.refl _,trivial⟩);refine PI hm hf ?_;unfold L3s.c;simp[go_sem];refine Q2 hec ?_;simp (disch:=omega) [go_sem,hq,Q0];refine Qi [.t 6 1] (α:=Nat) (λi=>i<=256)
     (λi=>⟨[(0,.i .i64 top),(1,.i .i64 h),(6,.own 0 (i+1) 0 i),(7,.i .i64 ((i:Int)*h+h / 2))],[.arr (i+1) 1 ((Kc h i).map iel)]⟩)
     (λi=>256-i) 0 (Nat.zero_le _) ?_ ?_
    ·simp[go_sem,Kc]
    intro i hi;have hl:=U6 h i;have c1:=(hlt i).1 (by omega);have c2:=hmb i (by omega);have c3:=Q4i h i;have c4:((i+1:Nat):Int)*h=i*h+h:=by push_cast;grind
    have c5:(i:Int)<256->i+1<=256:=by omega
    have ht:List.take i ((Kc h i).map iel)=(Kc h i).map iel:=qe (by simp[hl]);by_cases hi2:i=256
    ·subst hi2;have c1b:(256:Int)*h+h / 2<top:=by simpa using c1
     simp (disch:=omega) [go_sem,c1b,L3s.r]
    ·have hie:((i:Int) == 256)=false:=by simp;omega
     have hie2:¬ (i:Int)=256:=by omega
     generalize (i:Int)*h=M at *
     simp (disch:=omega) [go_sem,c1,hie,hie2,hl,ht,Q0];exact⟨⟨by omega,by omega⟩,i+1,by omega,by omega,⟨rfl,by omega⟩,⟨rfl,by rw[c3];simp[iel]⟩,Xe _ _⟩
   ·rw[if_neg hN];refine PI hm hf ?_;unfold L3s.c;simp[go_sem];refine Q2 hec ?_;simp (disch:=omega) [go_sem,hq,Q0];refine Qi [.t 6 1] (α:=Nat) (λi=>i<=N)
     (λi=>⟨[(0,.i .i64 top),(1,.i .i64 h),(6,.own 0 (i+1) 0 i),(7,.i .i64 ((i:Int)*h+h / 2))],[.arr (i+1) 1 ((Kc h i).map iel)]⟩)
     (λi=>N-i) 0 (Nat.zero_le _) ?_ ?_
    ·simp[go_sem,Kc]
    intro i hi;have hl:=U6 h i;have c2:=hmb i (by omega);have c3:=Q4i h i;have c4:((i+1:Nat):Int)*h=i*h+h:=by push_cast;grind
    have ht:List.take i ((Kc h i).map iel)=(Kc h i).map iel:=qe (by simp[hl]);by_cases hin:i<N
    ·have c1:=(hlt i).1 hin;have hie:((i:Int) == 256)=false:=by simp;omega
     have hie2:¬ (i:Int)=256:=by omega
     generalize (i:Int)*h=M at *
     simp (disch:=omega) [go_sem,c1,hie,hie2,hl,ht,Q0];exact⟨⟨by omega,by omega⟩,i+1,by omega,by omega,⟨rfl,by omega⟩,⟨rfl,by rw[c3];simp[iel]⟩,Xe _ _⟩
    ·obtain rfl:i=N:=by omega
     have c1:¬ (i:Int)*h+h / 2<top:=λhh=>hin ((hlt i).2 hh)
     simp (disch:=omega) [go_sem,c1,hl,ht,L3s.r];rw[if_pos (Qh1 _)];rfl
theorem Q5o {f:FuncId} (hf:Q5 P f L47.c L47.r L47.n) (hcb:Qx P f=true):Z0r P f:=by
 refine⟨hcb,λa b c=>?_⟩;refine PI hm hf ?_;unfold L47.c;have e1:(if c<a then c else a)=min a c:=by split<;>omega
 have e2:(if b<c then c else b)=max b c:=by split<;>omega
 simp[go_sem,e1,e2,L47.r]
theorem Q3h {f fe:FuncId} (hf:Q5 P f (L2p.c fe) L2p.r L2p.n) (he:Q0b P fe):Qo9 P f:=by
 intro top h ht1 ht2;have hec:=he h 4 1024 (by omega);unfold I1;cases hev:Z1 h 4 1024 with
 | false =>
   rw[hev]at hec
   rw[if_pos rfl];refine CallIs.res (r:=.t [.nil,.i .i64 1]) ?_ (.inr ⟨_,_,rfl,rfl,.inl (Le0.nil 1),Le1.refl _,trivial⟩);refine PI hm hf ?_;unfold L2p.c;simp[go_sem];refine Q2 hec ?_;simp[go_sem,L2p.r]
 | true =>
   rw[hev]at hec
   rw[if_neg (by simp)];have hh:4<=h/\h<=1024/\h % 2=0:=by
    unfold Z1 at hev;simp only[Bool.and_eq_true,decide_eq_true_eq]at hev;omega
   have hq:h.tdiv 2=h / 2:=Int.tdiv_eq_ediv_of_nonneg (by omega);have hlt:=λi:Nat=>Q7y (top:=top) (h:=h) (by omega) (i:=i)
   have hmb:∀i:Nat,i<=257->0<=(i:Int)*h/\(i:Int)*h<=257*1024:=λi hi=>by
    refine⟨Int.mul_nonneg (by omega) (by omega),?_⟩;exact Int.le_trans (jn (show (i:Int)<=257 by omega) (by omega)) (by omega)
   generalize Qd9 top h=N at *
   refine CallIs.res (r:=.t [if 256<N then .nil else isV (Kc h N),.i .i64 (if 256<N then 2 else 0)]) ?_ (by
    by_cases hN:256<N
    ·rw[if_pos hN,if_pos hN,if_pos hN];exact .inr ⟨_,_,rfl,rfl,.inl (Le0.nil 1),Le1.refl _,trivial⟩
    ·rw[if_neg hN,if_neg hN,if_neg hN];exact Le.refl _)
   refine PI hm hf ?_;unfold L2p.c;simp[go_sem];refine Q2 hec ?_;simp (disch:=omega) [go_sem,hq,Q0];refine Qi [.t 6 1] (α:=Nat) (λi=>i<=N/\i<=257)
    (λi=>⟨[(0,.i .i64 top),(1,.i .i64 h),(6,.own 0 (i+1) 0 i),(7,.i .i64 i)],[.arr (i+1) 1 ((Kc h i).map iel)]⟩)
    (λi=>N-i) 0 ⟨Nat.zero_le _,Nat.zero_le _⟩ ?_ ?_
   ·simp[go_sem,Kc]
   rintro i ⟨hi,hi2⟩;have hl:=U6 h i;have c2:=hmb i (by omega);have c3:=Q4i h i;have ht:List.take i ((Kc h i).map iel)=(Kc h i).map iel:=qe (by simp[hl]);by_cases hi3:i=257
   ·have hN:256<N:=by omega
    simp (disch:=omega) [go_sem,hi3,hN,L2p.r]
   have hi4:(i:Int)<=256:=by omega
   by_cases hin:i<N
   ·have c1:=(hlt i).1 hin;obtain⟨M,hM⟩:∃M:Int,(i:Int)*h=M:=⟨_,rfl⟩
    rw[hM]at c1 c2 c3
    have w1:=Q0 (z:=M) (by omega) (by omega);simp (disch:=omega) [go_sem,hi4,hq,hM,w1,show ¬ top<=M+h / 2 by omega,hl,ht,Q0];exact⟨⟨by omega,by omega⟩,i+1,⟨by omega,by omega⟩,by omega,⟨rfl,by omega⟩,⟨rfl,by rw[c3];simp[iel]⟩,Xe _ _⟩
   ·obtain rfl:i=N:=by omega
    have c1:¬ (i:Int)*h+h / 2<top:=λhh=>hin ((hlt i).2 hh)
    have hN:¬ 256<i:=by omega
    obtain⟨M,hM⟩:∃M:Int,(i:Int)*h=M:=⟨_,rfl⟩
    rw[hM]at c1 c2
    have w1:=Q0 (z:=M) (by omega) (by omega);simp (disch:=omega) [go_sem,hi4,hq,hM,w1,show top<=M+h / 2 by omega,hl,ht,hN,Q0,L2p.r];rw[if_pos (Qh1 _)];rfl
theorem Qfs {f:FuncId} (hf:Q5 P f L2v.c L2v.r L2v.n):TopC P f:=by
 intro m hml;refine PI hm hf ?_;unfold L2v.c;simp[go_sem,Mesh.enc];obtain⟨H,hH⟩:∃H:Nat->Int,∀i,H i=if i=0 then 0 else (Q17 ((m.verts[0]?).getD ⟨0,0,0⟩) (m.verts.take i)).z:=⟨_,λ_=>rfl⟩
 obtain⟨L,hL⟩:∃L:Nat->Int,∀i,L i=if i=0 then 0 else (Q7l ((m.verts[0]?).getD ⟨0,0,0⟩) (m.verts.take i)).z:=⟨_,λ_=>rfl⟩
 have hHn:H m.verts.length=(bHi m.verts).z:=by
  rw[hH,qi];cases m.verts with
  | nil=>rfl
  | cons v l=>simp[bHi]
 have hLn:L m.verts.length=(bLo m.verts).z:=by
  rw[hL,qi];cases m.verts with
  | nil=>rfl
  | cons v l=>simp[bLo]
 have hH0:H 0=0:=by rw[hH];rfl
 have hL0:L 0=0:=by rw[hL];rfl
 refine Q8 (α:=Nat) (λi=>i<=m.verts.length)
  (λi=>⟨[(1,.p 0 1 0 0),(4,.i .i64 (H i)),(5,.i .i64 (L i)),(6,.i .i64 i)],[.arr 1 2 [m.cs]]⟩)
  (λi=>m.verts.length-i) 0 (Nat.zero_le _) ?_ ?_
 ·simp[go_sem,Mesh.cs,vsV,tsV,hH0,hL0]
 intro i hi;by_cases hil:i=m.verts.length
 ·subst hil;rw[hHn,hLn];simp[go_sem,Mesh.cs,vsV,tsV,L2v.r]
 have hlt:i<m.verts.length:=by omega
 have hq:m.verts[i]?=some m.verts[i]:=q9 hlt;have hHs:H (i+1)=if i=0 then (m.verts[i]).z else max (H i) (m.verts[i]).z:=by
  rw[hH,hH,if_neg (by omega),Q6 hq,Qey];by_cases h0:i=0
  ·subst h0;rw[if_pos rfl,hq];simp[Q17]
  ·rw[if_neg h0,if_neg h0]
 have hLs:L (i+1)=if i=0 then (m.verts[i]).z else min (L i) (m.verts[i]).z:=by
  rw[hL,hL,if_neg (by omega),Q6 hq,Qex];by_cases h0:i=0
  ·subst h0;rw[if_pos rfl,hq];simp[Q7l]
  ·rw[if_neg h0,if_neg h0]
 generalize m.verts[i]=v at *
 obtain⟨_,hq'⟩:=q8.1 hq;by_cases h0:i=0
 ·rw[if_pos h0]at hHs hLs
  subst h0;simp (disch:=omega) [go_sem,Mesh.cs,vsV,tsV,hlt,hq,hq',vcs,Q0];exact⟨1,by omega,by omega,by rw[hHs],by rw[hLs],rfl⟩
 ·rw[if_neg h0]at hHs hLs
  have hb0:((i:Int) == 0)=false:=by simp;omega
  have hn0:¬ (i:Int)=0:=by omega
  by_cases c1:H i<v.z<;>by_cases c2:v.z<L i
  all_goals
   simp (disch:=omega) [go_sem,Mesh.cs,vsV,tsV,hlt,hq,hq',vcs,hb0,hn0,h0,c1,c2,Q0];exact⟨i+1,by omega,by omega,by rw[hHs];omega,by rw[hLs];omega,by omega⟩
end
def Xl (l:List (List Rw)):V:=.l 1 (l.map λg=>[rwL g])
def AtC (P:Program) (f:FuncId):Prop:=∀(l:List (List Rw)) (i:Nat),l.length<=1000->i<=1000000->CallIs P f [Xl l,.i .i64 i] (rgV (atR l i))
def Qo1 (P:Program) (f:FuncId):Prop:=∀a b:List Rw,RgV a->RgV b->RgB a->RgB b->CallIs P f [rgV a,rgV b] (.b (decide (a=b)))
def Qi0 (P:Program) (f:FuncId):Prop:=∀a b:List (List Rw),Jy a->Jy b->a.length<=1000->b.length<=1000->CallIs P f [Xl a,Xl b] (.b (decide (a=b)))
section
variable {P:Program} (hm:P.follows .mixedOrders=true)
include hm
theorem Qbu {f fm:FuncId} (hf:Q5 P f (L46.c fm) L46.r L46.n) (hmm:Z0r P fm):Qbp P f:=by
 intro l hl;obtain⟨hcb,hmc⟩:=hmm;refine PI hm hf ?_;unfold L46.c;cases l with
 | nil =>
   simp[go_sem,vsV,bLo,bHi,V3.enc,V3.cs,L46.r]
 | cons v0 vs =>
   generalize hvs:v0::vs=l at hl ⊢;have hll:0<l.length:=by rw[<- hvs];simp
   have hne:l≠[]:=by rw[<- hvs];simp
   have hq0:l[0]?=some v0:=by rw[<- hvs];rfl
   have eLo:bLo l=Q7l v0 l:=by rw[<- hvs];rfl
   have eHi:bHi l=Q17 v0 l:=by rw[<- hvs];rfl
   obtain⟨_,hq0'⟩:=q8.1 hq0;clear hvs;have hlf:((l.length:Int) == 0)=false:=by simp;omega
   rw[eLo,eHi];simp (disch:=omega) [go_sem,vsV,hll,hne,hlf,hq0,hq0',V3.cs,show ¬ l.length=0 by omega];obtain⟨A,hA⟩:∃A:Nat->V3,∀i,A i=Q7l v0 (l.take i):=⟨_,λ_=>rfl⟩
   obtain⟨B,hB⟩:∃B:Nat->V3,∀i,B i=Q17 v0 (l.take i):=⟨_,λ_=>rfl⟩
   have hA0:A 0=v0:=by rw[hA];rfl
   have hB0:B 0=v0:=by rw[hB];rfl
   have hAn:A l.length=Q7l v0 l:=by rw[hA,qi]
   have hBn:B l.length=Q17 v0 l:=by rw[hB,qi]
   refine Q8 (α:=Nat) (λi=>i<=l.length)
    (λi=>⟨[(2,.p 0 1 0 0),(3,.p 1 1 0 0),(5,.p 2 1 0 0),(6,.p 3 1 0 0),(7,.f fm []),(21,vsV l),(22,.i .i64 l.length),(23,.i .i64 i)],[.arr 1 3 [(⟨0,0,0⟩:V3).cs],.arr 1 3 [(⟨0,0,0⟩:V3).cs],.arr 1 3 [(A i).cs],.arr 1 3 [(B i).cs]]⟩)
    (λi=>l.length-i) 0 (Nat.zero_le _) ?_ ?_
   ·simp[go_sem,vsV,V3.cs,hA0,hB0]
   intro i hi;by_cases hil:i=l.length
   ·subst hil;rw[hAn,hBn];simp[go_sem,vsV,V3.cs,V3.enc,L46.r]
   have hlt:i<l.length:=by omega
   have hq:l[i]?=some l[i]:=q9 hlt;have hAs:A (i+1)=⟨min (A i).x (l[i]).x,min (A i).y (l[i]).y,min (A i).z (l[i]).z⟩:=by rw[hA,hA,Q6 hq,Qex]
   have hBs:B (i+1)=⟨max (B i).x (l[i]).x,max (B i).y (l[i]).y,max (B i).z (l[i]).z⟩:=by rw[hB,hB,Q6 hq,Qey]
   generalize l[i]=v at *
   obtain⟨_,hq'⟩:=q8.1 hq;have c1:=hmc (A i).x (B i).x v.x;have c2:=hmc (A i).y (B i).y v.y;have c3:=hmc (A i).z (B i).z v.z;simp (disch:=omega) [go_sem,vsV,hlt,hq,hq',V3.cs,Q0];refine⟨hcb,Q2 c1 ?_⟩;simp (disch:=omega) [go_sem,vsV,V3.cs,Q0];refine⟨hcb,Q2 c2 ?_⟩;simp (disch:=omega) [go_sem,vsV,V3.cs,Q0];refine⟨hcb,Q2 c3 ?_⟩;simp (disch:=omega) [go_sem,vsV,V3.cs,Q0]
   exact⟨i+1,by omega,by omega,by omega,by rw[hAs];exact⟨rfl,rfl,rfl⟩,by rw[hBs];exact⟨rfl,rfl,rfl⟩⟩
theorem Qjs {f fc fb:FuncId} (hf:Q5 P f (L0d.c fc fb) L0d.r L0d.n) (hc:Y0 P fc) (hb:Qbp P fb):Z0s P f:=by
 intro m hm0;have hcc:=hc m;rw[hm0]at hcc
 have hl:=(Mesh.check_zero.1 hm0).1;have hbc:=hb m.verts (by omega);refine PI hm hf ?_;unfold L0d.c;simp[go_sem,Mesh.enc,Mesh.cs];refine Q2 hcc ?_;simp[go_sem];refine Q2 hbc ?_;simp[go_sem,V3.enc,V3.cs,L0d.r]
theorem Qj9 {f:FuncId} (hf:Q5 P f L2o.c L2o.r L2o.n):AtC P f:=by
 intro l i hl hi;unfold atR;by_cases h:i<l.length
 ·have hq:l[i]?=some l[i]:=q9 h;generalize l[i]=g at *
  obtain⟨_,hq'⟩:=q8.1 hq;rw[hq];refine PI hm hf ?_;unfold L2o.c;simp[go_sem,Xl,h,hq,hq',rwL,rgV,show ¬ l.length<=i by omega,show ¬ (i:Int)<0 by omega,L2o.r]
 ·have hq:l[i]?=none:=qk (by omega);rw[hq];refine CallIs.res (r:=.a [.nil]) ?_ (.inl (.inr ⟨_,_,rfl,rfl,Le0.nil 2,trivial⟩));refine PI hm hf ?_;unfold L2o.c;simp[go_sem,Xl,h,show l.length<=i by omega,show ¬ (i:Int)<0 by omega,L2o.r]
theorem Qcb {f:FuncId} (hf:Q5 P f L27.c L27.r L27.n):Qo1 P f:=by
 intro a b ha hb ba bb;have hal:=ha.len ba;have hbl:=hb.len bb;refine PI hm hf ?_;unfold L27.c;by_cases hlen:a.length=b.length
 case neg =>
  have hne:¬ a=b:=λh=>hlen (by rw[h])
  have hb1:((a.length:Int) == b.length)=false:=by simp;omega
  have hb2:((a.length:Int) != b.length)=true:=by simp;omega
  simp[go_sem,rgV,hb1,hb2,hne,hlen,L27.r]
 simp[go_sem,rgV,hlen];refine Q8 (α:=Nat) (λi=>i<=a.length/\a.take i=b.take i)
  (λi=>⟨[(2,.p 0 1 0 0),(3,.p 1 1 0 0),(5,.i .i64 i)],[.arr 1 1 [[rwL a]],.arr 1 1 [[rwL b]]]⟩)
  (λi=>a.length-i) 0 ⟨Nat.zero_le _,rfl⟩ ?_ ?_
 ·simp[go_sem,rwL]
 rintro i ⟨hi,hpre⟩;by_cases hil:i=a.length
 ·subst hil;have he:a=b:=by
   rw[qi,hlen,qi]at hpre
   exact hpre
  subst he;simp[go_sem,rwL,L27.r]
 have hlt:i<a.length:=by omega
 have hlt2:i<b.length:=by omega
 have hq:a[i]?=some a[i]:=q9 hlt;have hr:b[i]?=some b[i]:=q9 hlt2;have hal2:=(ha.rs _ (qb hq)).len (ba.rnb ha (qb hq));generalize a[i]=v at *
 generalize b[i]=w at *
 obtain⟨_,hq'⟩:=q8.1 hq;obtain⟨_,hr'⟩:=q8.1 hr;have hdiff:v≠w->¬ a=b:=λhvw he=>by
  rw[he,hr]at hq
  simp at hq;exact hvw hq.symm
 by_cases hy:v.y=w.y
 case neg =>
  have hne:=hdiff λh=>hy (by rw[h])
  have hb1:(v.y != w.y)=true:=by simpa using hy
  simp (disch:=omega) [go_sem,rwL,hlt,hlt2,hq,hq',hr,hr',Rw.cs,hy,hb1,hne,Q0,L27.r]
 by_cases hrl:v.rs.length=w.rs.length
 case neg =>
  have hne:=hdiff λh=>hrl (by rw[h])
  have hb1:((v.rs.length:Int) != w.rs.length)=true:=by simp;omega
  simp (disch:=omega) [go_sem,rwL,hlt,hlt2,hq,hq',hr,hr',Rw.cs,Q9,hy,hrl,hb1,hne,Q0,L27.r]
 simp (disch:=omega) [go_sem,rwL,hlt,hlt2,hq,hq',hr,hr',Rw.cs,Q9,hy,hrl,Q0];refine Q8 (α:=Nat) (λj=>j<=v.rs.length/\v.rs.take j=w.rs.take j)
  (λj=>⟨[(2,.p 0 1 0 0),(3,.p 1 1 0 0),(5,.i .i64 i),(6,.p 2 1 0 0),(7,.p 3 1 0 0),(8,.i .i64 j)],[.arr 1 1 [[rwL a]],.arr 1 1 [[rwL b]],.arr 1 2 [v.cs],.arr 1 2 [w.cs]]⟩)
  (λj=>v.rs.length-j) 0 ⟨Nat.zero_le _,rfl⟩ ?_ ?_
 ·simp[go_sem,rwL,Rw.cs,Q9,hy]
 rintro j ⟨hj,hpre2⟩;by_cases hjl:j=v.rs.length
 ·subst hjl;have he:v=w:=by
   rw[qi,hrl,qi]at hpre2
   cases v;cases w;simp_all
  subst he;simp (disch:=omega) [go_sem,rwL,Rw.cs,Q9,Q0];exact⟨i+1,⟨by omega,by rw[Q6 hq,Q6 hr,hpre]⟩,by omega,by omega⟩
 have hjt:j<v.rs.length:=by omega
 have hjt2:j<w.rs.length:=by omega
 have hu:v.rs[j]?=some v.rs[j]:=q9 hjt;have hx:w.rs[j]?=some w.rs[j]:=q9 hjt2;have hdiff2:v.rs[j]≠w.rs[j]->¬ a=b:=λhne=>hdiff λh=>by
  subst h;exact hne rfl
 generalize v.rs[j]=r at *
 generalize w.rs[j]=s at *
 obtain⟨_,hu'⟩:=q8.1 hu;obtain⟨_,hx'⟩:=q8.1 hx;by_cases hrs:r=s
 ·subst hrs;simp (disch:=omega) [go_sem,rwL,Rw.cs,Rn.cs,Q9,hjt,hjt2,hu,hu',hx,hx',Q0];exact⟨j+1,⟨by omega,by rw[Q6 hu,Q6 hx,hpre2]⟩,by omega,by omega⟩
 ·have hne:=hdiff2 hrs;have hor:¬ r.a=s.a∨¬ r.b=s.b:=by
   by_cases h1:r.a=s.a
   ·right;intro h2;apply hrs;cases r;cases s;simp_all
   ·exact .inl h1
  have hbo:(!r.a == s.a || !r.b == s.b)=true:=by
   rcases hor with h1 | h1<;>simp[h1]
  simp (disch:=omega) [go_sem,rwL,Rw.cs,Rn.cs,Q9,hjt,hjt2,hu,hu',hx,hx',hor,hbo,hne,Q0,L27.r]
theorem Qc7 {f fs:FuncId} (hf:Q5 P f (L2q.c fs) L2q.r L2q.n) (hs:Qo1 P fs):Qi0 P f:=by
 intro a b ha hb hal hbl;refine PI hm hf ?_;unfold L2q.c;by_cases hlen:a.length=b.length
 case neg =>
  have hne:¬ a=b:=λh=>hlen (by rw[h])
  have hb2:((a.length:Int) != b.length)=true:=by simp;omega
  simp[go_sem,Xl,hb2,hne,hlen,L2q.r]
 simp[go_sem,Xl,hlen];refine Q8 (α:=Nat) (λi=>i<=a.length/\a.take i=b.take i)
  (λi=>⟨[(0,Xl a),(1,Xl b),(5,.i .i64 i)],[]⟩)
  (λi=>a.length-i) 0 ⟨Nat.zero_le _,rfl⟩ ?_ ?_
 ·simp[go_sem,Xl]
 rintro i ⟨hi,hpre⟩;by_cases hil:i=a.length
 ·subst hil;have he:a=b:=by
   rw[qi,hlen,qi]at hpre
   exact hpre
  subst he;simp[go_sem,Xl,L2q.r]
 have hlt:i<a.length:=by omega
 have hlt2:i<b.length:=by omega
 have hq:a[i]?=some a[i]:=q9 hlt;have hr:b[i]?=some b[i]:=q9 hlt2;have va:=ha _ (qb hq);have vb:=hb _ (qb hr);generalize a[i]=v at *
 generalize b[i]=w at *
 obtain⟨_,hq'⟩:=q8.1 hq;obtain⟨_,hr'⟩:=q8.1 hr;have hsc:=hs v w va.1 vb.1 va.2 vb.2;simp only[rgV]at hsc;simp (disch:=omega) [go_sem,Xl,rwL,hlt,hlt2,hq,hq',hr,hr',Q0];refine Qa hsc ?_;by_cases he:v=w
 ·subst he;simp (disch:=omega) [go_sem,Xl,rwL,Q0];exact⟨i+1,⟨by omega,by rw[Q6 hq,Q6 hr,hpre]⟩,by omega,by omega⟩
 ·have hne:¬ a=b:=λh=>by
   rw[h,hr]at hq
   simp at hq;exact he hq.symm
  simp (disch:=omega) [go_sem,Xl,rwL,he,hne,Q0,L2q.r]
end
end Go.Abs
