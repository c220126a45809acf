/- Part of the library on which the proof stands: an abstract machine, its values and its soundness against the model; or what functions of the program do to such values. -/
import Derived.Test.YtjggbpiapinceaaGreatGoUnB
import Derived.Test.YtjggbpiapinceaaGreatGoUnF
set_option linter.unusedVariables false
set_option linter.unusedSimpArgs false
set_option maxHeartbeats 16000000
set_option maxRecDepth 20000
namespace Go.Abs
def iel (x:Int):List V:=[.i .i64 x]
def Qd6 (l:List Int) (k i:Nat):Prop:=∀p q (hp:p<q) (hq:q<l.length),q<=i->q≠k->l[p]'(by omega)<=l[q]
theorem Qj1 {l:List Int} {k i:Nat} (h:Qd6 l (k+1) i) (hk:k+1<l.length) (hki:k+1<=i) (hlt:l[k+1]<l[k]'(by omega)):Qd6 ((l.set (k+1) (l[k]'(by omega))).set k l[k+1]) k i:=by
 intro p q hp hq0 hqi hqk
 have hq:q<l.length:=by simpa using hq0
 simp only[List.getElem_set]
 by_cases q1:q=k+1
 ·subst q1
  rw[if_neg (show ¬ k=k+1 by omega),if_pos rfl]
  by_cases p1:p=k
  ·subst p1
   rw[if_pos rfl];omega
  ·rw[if_neg (show ¬ k=p by omega),if_neg (show ¬ k+1=p by omega)]
   exact h p k (by omega) (by omega) (by omega) (by omega)
 ·rw[if_neg (show ¬ k=q by omega),if_neg (show ¬ k+1=q by omega)]
  by_cases p1:p=k
  ·subst p1
   rw[if_pos rfl]
   exact h (p+1) q (by omega) hq hqi q1
  ·rw[if_neg (show ¬ k=p by omega)]
   by_cases p2:k+1=p
   ·rw[if_pos p2]
    exact h k q (by omega) hq hqi q1
   ·rw[if_neg p2]
    exact h p q hp hq hqi q1
theorem Q4o:∀(l:List Int) (k:Nat) (hk:k+1<l.length),((l.set (k+1) (l[k]'(by omega))).set k l[k+1]).Perm l
 | [],_,h=>by simp at h
 | [_],_,h=>by simp at h
 | a::b::l,0,_=>by simpa using List.Perm.swap a b l
 | a::b::l,k+1,h=>by
   have:=Q4o (b::l) k (by simpa using h)
   simp only[List.set_cons_succ,List.getElem_cons_succ]at this ⊢
   exact this.cons a
theorem Qj2 {l:List Int} {k i:Nat} (h:Qd6 l k i) (hs:k=0∨∃(h1:k<l.length),l[k-1]'(by omega)<=l[k]):∀p q (hp:p<q) (hq:q<l.length),q<=i->l[p]'(by omega)<=l[q]:=by
 intro p q hp hq hqi
 by_cases hqk:q=k
 ·subst hqk
  rcases hs with h0 | ⟨h1,h2⟩
  ·omega
  ·by_cases hpk:p=q-1
   ·subst hpk;exact h2
   ·have:=h p (q-1) (by omega) (by omega) (by omega) (by omega)
    omega
 ·exact h p q hp hq hqi hqk
theorem Bn (L:List Int) (n:Nat):∀a∈L,∀x∈iel a,x.cl n=true:=λa _ x hx=>by
 simp[iel]at hx
 subst hx
 simp[V.cl,V.cl1,V.cl0]
theorem iel_isD (L:List Int):∀a∈L,∀x∈iel a,x.isD=true:=λa _ x hx=>by
 simp[iel]at hx
 subst hx
 rfl
theorem Ql8 (L:List Int) (N:Nat):∀x∈List.take N (L.map iel),∀y∈x,y.isD=true:=λx hx y hy=>by
 obtain⟨a,ha,rfl⟩:=qo.1 (jk hx)
 exact iel_isD L a ha y hy
section
variable {P:Program} (hm:P.follows .mixedOrders=true)
include hm
theorem Q0n {f:FuncId} (hf:Q9 P f L11.c L11.r L11.n):BoundsC P f:=by
 intro a b ha hb
 refine Q8 hm hf (qh rfl) ?_
 unfold L11.c
 simp[go_sem,Qe]
 obtain⟨T,hT⟩:∃T:Nat->List Int,∀i,T i=Zp (a.take i):=⟨_,λ_=>rfl⟩
 have hT0:T 0=[]:=by rw[hT];rfl
 have hTn:T a.length=Zp a:=by rw[hT,qi]
 have hTl:∀i,i<=a.length->(T i).length=2*i:=λi hi=>by rw[hT,Wh,qv];omega
 refine Zc [.t 5 1] (α:=Nat) (λi=>i<=a.length)
  (λi=>⟨[(0,Qe a),(1,Qe b),(5,.own 0 (i+1) 0 (T i).length),(6,.i .i64 i)],[.arr (i+1) 1 ((T i).map iel)]⟩)
  (λi=>a.length-i) 0 (Nat.zero_le _) ?_ ?_
 ·simp[go_sem,Qe,hT0]
 intro i hi
 by_cases hil:i=a.length
 case neg =>
  have hlt:i<a.length:=by omega
  have hq:a[i]?=some a[i]:=q9 hlt
  have hTs:T (i+1)=T i++[(a[i]).a,(a[i]).b]:=by rw[hT,hT,Qf hq,Q5o]
  have hTi:=hTl i hi
  generalize a[i]=r at *
  obtain⟨_,hq'⟩:=q8.1 hq
  have ht:List.take (T i).length ((T i).map iel)=(T i).map iel:=qe (by simp)
  generalize T i=L at *
  simp (disch:=omega) [go_sem,Qe,hlt,hq,hq',Rn.cs,ht,Q3]
  exact⟨⟨by omega,by omega⟩,i+1,by omega,by omega,⟨⟨rfl,by rw[hTs];simp⟩,by omega⟩,⟨rfl,by rw[hTs];simp[iel]⟩,Bn _ _⟩
 subst hil
 rw[hTn]
 obtain⟨S,hS⟩:∃S:Nat->List Int,∀j,S j=Zp a++Zp (b.take j):=⟨_,λ_=>rfl⟩
 have hS0:S 0=Zp a:=by rw[hS];simp[Zp]
 have hSn:S b.length=Zp a++Zp b:=by rw[hS,qi]
 have hSl:∀j,j<=b.length->(S j).length=2*a.length+2*j:=λj hj=>by rw[hS,j3,Wh,Wh,qv];omega
 simp (disch:=omega) [go_sem,Qe,Q3]
 refine Qj (α:=Nat) (λj=>j<=b.length)
  (λj=>⟨[(1,Qe b),(5,.own 0 (a.length+j+1) 0 (S j).length),(7,.i .i64 j)],[.arr (a.length+j+1) 1 ((S j).map iel)]⟩)
  (λj=>b.length-j) 0 (Nat.zero_le _) ?_ ?_
 ·simp[go_sem,Qe,hS0]
  exact Bn _ _
 intro j hj
 by_cases hjl:j=b.length
 case neg =>
  have hlt:j<b.length:=by omega
  have hq:b[j]?=some b[j]:=q9 hlt
  have hSs:S (j+1)=S j++[(b[j]).a,(b[j]).b]:=by rw[hS,hS,Qf hq,Q5o,qz]
  have hSi:=hSl j hj
  generalize b[j]=r at *
  obtain⟨_,hq'⟩:=q8.1 hq
  have ht:List.take (S j).length ((S j).map iel)=(S j).map iel:=qe (by simp)
  generalize S j=L at *
  simp (disch:=omega) [go_sem,Qe,hlt,hq,hq',Rn.cs,ht,Q3]
  exact⟨⟨by omega,by omega⟩,j+1,by omega,by omega,⟨⟨by omega,by rw[hSs];simp⟩,by omega⟩,⟨by omega,by rw[hSs];simp[iel]⟩,Bn _ _⟩
 subst hjl
 have hN:=hSl b.length (Nat.le_refl _)
 rw[hSn]at hN ⊢
 generalize Zp a++Zp b=B at *
 generalize hNN:B.length=N at *
 simp (disch:=omega) [go_sem,Qe,Q3]
 refine Qj (α:=List Int × Nat) (λp=>p.1.Perm B/\1<=p.2/\(p.2<=N∨p.2=1)/\Qd6 p.1 p.2 p.2)
  (λp=>⟨[(5,.own 0 (a.length+b.length+1) 0 N),(8,.i .i64 p.2)],[.arr (a.length+b.length+1) 1 (p.1.map iel)]⟩)
  (λp=>N-p.2) (B,1) ⟨List.Perm.refl _,Nat.le_refl _,.inr rfl,λp q hp hq h1 h2=>by omega⟩ ?_ ?_
 ·simp[go_sem]
  exact Bn _ _
 rintro⟨L,i⟩ ⟨hp,h1,h2,h3⟩
 simp only at hp h1 h2 h3 ⊢
 have hLl:L.length=N:=by rw[hp.length_eq];exact hNN
 by_cases hin:i<N
 ·simp (disch:=omega) [go_sem,hin,Q3]
  refine Qj (α:=List Int × Nat) (λp=>p.1.Perm B/\p.2<=i/\Qd6 p.1 p.2 i)
   (λp=>⟨[(5,.own 0 (a.length+b.length+1) 0 N),(8,.i .i64 i),(9,.i .i64 p.2)],[.arr (a.length+b.length+1) 1 (p.1.map iel)]⟩)
   (λp=>p.2) (L,i) ⟨hp,Nat.le_refl _,h3⟩ ?_ ?_
  ·simp[go_sem]
   exact Bn _ _
  rintro⟨M,k⟩ ⟨hp2,h4,h5⟩
  simp only at hp2 h4 h5 ⊢
  have hMl:M.length=N:=by rw[hp2.length_eq];exact hNN
  have hnext:(k=0∨∃(h1:k<M.length),M[k-1]'(by omega)<=M[k])->Qd6 M (i+1) (i+1):=λhs p q hpq hq hqi hqk=>Qj2 h5 hs p q hpq hq (by omega)
  cases k with
  | zero =>
    have hnx:=hnext (.inl rfl)
    simp (disch:=omega) [go_sem,Q3]
    exact⟨M,i+1,⟨hp2,by omega,by omega,hnx⟩,by omega,by omega,rfl,Bn _ _⟩
  | succ k =>
    have hk1:M[k+1]?=some M[k+1]:=q9 (by omega)
    have hk0:M[k]?=some M[k]:=q9 (by omega)
    have hsw:=Qj1 (l:=M) (k:=k) (i:=i) h5 (by omega) h4
    have hpe:=Q4o M k (by omega)
    have hst:M[k]'(by omega)<=M[k+1]->Qd6 M (i+1) (i+1):=λhle=>hnext (.inr ⟨by omega,hle⟩)
    generalize M[k+1]=u at *
    generalize M[k]=v at *
    obtain⟨_,hk1'⟩:=q8.1 hk1
    obtain⟨_,hk0'⟩:=q8.1 hk0
    have hkN:(k:Int)+1<N:=by omega
    have hz0:(0:Int)<=(k:Int)+1:=by omega
    have hkN2:k+1<N:=by omega
    have hkN3:k<N:=by omega
    by_cases hlt:u<v
    ·simp (disch:=omega) [go_sem,iel,hMl,hkN,hz0,hkN2,hkN3,hk1,hk0,hk1',hk0',hlt,Q3]
     exact⟨(M.set (k+1) v).set k u,k,⟨hpe.trans hp2,by omega,hsw hlt⟩,by omega,rfl,by rw[List.map_set,List.map_set];rfl⟩
    ·simp (disch:=omega) [go_sem,iel,hMl,hkN,hz0,hkN2,hkN3,hk1,hk0,hk1',hk0',hlt,Q3]
     exact⟨M,i+1,⟨hp2,by omega,by omega,hst (by omega)⟩,by omega,by omega,rfl⟩
 ·simp (disch:=omega) [go_sem,hin,Q3,L11.r]
  have ht:List.take N (L.map iel)=L.map iel:=qe (by simp[hLl])
  rw[if_pos ⟨by omega,Ql8 L N⟩,ht]
  refine⟨_,rfl,L,hp,?_,rfl⟩
  rw[j4]
  intro p q hp1 hq hpq
  exact h3 p q hpq hq (by omega) (by omega)
end
theorem Qnc {P:Program} {n0:Nat} {js:List Nat} {lg:List (List Nat × List Nat)} {f:FuncId} {args:List A} {b:Bool} {env:List (Nat × V)} {h:List O} {K:List Nat × List Nat->V->List O->Prop}:Sg P n0 js lg (.call f args) (.t []) b env h K=K ([],[]) (.t []) h:=Rfl rfl
theorem BoundsC.is {P:Program} {f:FuncId} (h:BoundsC P f) {a b:List Rn} (ha:a.length<=8192) (hb:b.length<=8192):CallIs P f [Qe a,Qe b] (isV (Zo (Zp a++Zp b))) :=
 PureC.is ((h a b ha hb).mono λr ⟨L,h1,h2,h3⟩=>by
  rw[h3]
  congr 1
  have h4:(Zo (Zp a++Zp b)).Pairwise λx y=>x<=y:=by
   have:=List.pairwise_mergeSort (le:=λx y:Int=>decide (x<=y)) (by intro a b c;simp;omega) (by intro a b;simp;omega) (Zp a++Zp b)
   exact this.imp λh=>by simpa using h
  exact List.Perm.eq_of_pairwise (le:=λx y:Int=>x<=y) (λx y _ _ h1 h2=>by omega) h2 h4 (h1.trans (List.mergeSort_perm _ _).symm)) rfl
theorem Qfr (l:List Int):(Zo l).Pairwise λx y=>x<=y:=by
 have:=List.pairwise_mergeSort (le:=λx y:Int=>decide (x<=y)) (by intro a b c;simp;omega) (by intro a b;simp;omega) l
 exact this.imp λh=>by simpa using h
theorem Q1y (l:List Int):(Zo l).Perm l:=List.mergeSort_perm _ _
def Qoe (P:Program) (f:FuncId):Prop:=∀(op:Int) (a b U:List Rn),RnsV a->RnsV b->RnI a->RnI b->RnsV U->(∀x,Qb U x↔Y7 op (decide (Qb a x)) (decide (Qb b x))=true)->CallIs P f [.i .i64 op,Qe a,Qe b] (Qe U)
section
variable {P:Program} (hm:P.follows .mixedOrders=true)
include hm
theorem El {f fb fi fk:FuncId} (hf:Q9 P f (L12.c fb fi fk) L12.r L12.n) (hb:BoundsC P fb) (hi:InsC P fi) (hk:Qnu P fk):Qoe P f:=by
 intro op a b U va vb ia ib hU hUx
 have hal:=va.len ia
 have hbl:=vb.len ib
 have hbc:=hb.is hal hbl
 have hL1:=Qfr (Zp a++Zp b)
 have hL2:∀x,x∈Zo (Zp a++Zp b)↔x∈Zp a++Zp b:=λx=>(Q1y _).mem_iff
 have hLl:(Zo (Zp a++Zp b)).length<=40000:=by rw[(Q1y _).length_eq,j3,Wh,Wh];omega
 generalize Zo (Zp a++Zp b)=L at *
 refine PureC.is (Q8 hm hf (qh rfl) ?_) rfl
 unfold L12.c
 simp[go_sem,Qe]
 refine Q5 hbc ?_
 simp[go_sem,Qe]
 refine Zc [.t 8 2] (α:=Nat × List Rn × Nat) (λp=>CbI op a b L p.1 p.2.1/\(p.1+1<=L.length∨p.1=0))
  (λp=>⟨[(0,.i .i64 op),(1,Qe a),(2,Qe b),(7,isV L),(8,.own 0 (p.2.2+1) 0 p.2.1.length),(9,.i .i64 p.1)],[.arr (p.2.2+1) 2 (p.2.1.map Rn.cs)]⟩)
  (λp=>L.length-p.1) (0,[],0) ⟨CbI.start hL1 hL2,.inr rfl⟩ ?_ ?_
 ·simp[go_sem,Qe,isV]
 rintro⟨i,out,g⟩ ⟨hI,hil⟩
 simp only at hI hil ⊢
 have hol:=hI.len
 by_cases hend:L.length<=i+1
 ·have hUe:=hI.done hL1 hL2 hend hil hU hUx
  subst hUe
  simp (disch:=omega) [go_sem,isV,Q3,show ¬ (i:Int)+1<L.length by omega,L12.r]
  rw[if_pos (Q2b out)];rfl
 have hi1:i+1<L.length:=by omega
 have hi0:i<L.length:=by omega
 have hu:L[i]?=some L[i]:=q9 hi0
 have hv:L[i+1]?=some L[i+1]:=q9 hi1
 have hst:=hI.step hL1 hL2 hu hv
 generalize L[i]=u at *
 generalize L[i+1]=v at *
 obtain⟨_,hu'⟩:=q8.1 hu
 obtain⟨_,hv'⟩:=q8.1 hv
 have hz1:(i:Int)+1<L.length:=by omega
 have hz2:(0:Int)<=(i:Int)+1:=by omega
 by_cases huv:u=v
 ·rw[if_pos (.inl huv)]at hst
  subst huv
  simp (disch:=omega) [go_sem,isV,Qe,hz1,hz2,hi0,hi1,hu,hu',hv,hv',Qnc,Z3,I.news,Q3]
  exact⟨i+1,out,⟨hst,.inl (by omega)⟩,by omega,g,⟨⟨rfl,rfl⟩,by omega⟩,⟨rfl,rfl⟩,Q90 _ _⟩
 have huvb:(u == v)=false:=by simpa using huv
 have c1:=hi a u hal
 have c2:=hi b u hbl
 have c3:=hk op (decide (Qb a u)) (decide (Qb b u))
 by_cases hkp:Y7 op (decide (Qb a u)) (decide (Qb b u))=true
 ·rw[if_neg (by rintro (h | h);exact huv h;rw[hkp]at h;simp at h)]at hst
  rw[hkp]at c3
  simp (disch:=omega) [go_sem,isV,Qe,hz1,hz2,hi0,hi1,hu,hu',hv,hv',huv,huvb,Q3]
  refine Ql c1 ?_
  simp (disch:=omega) [go_sem,isV,Qe,hz1,hz2,hi0,hi1,hu,hu',hv,hv',huv,huvb,Q3]
  refine Ql c2 ?_
  simp (disch:=omega) [go_sem,isV,Qe,huv,huvb,Q3]
  refine Ql c3 ?_
  have htk:List.take out.length (out.map Rn.cs)=out.map Rn.cs:=qe (by simp)
  rcases J3 out with rfl | ⟨o,r,rfl⟩
  ·rw[Q5k]at hst
   simp (disch:=omega) [go_sem,isV,Qe,hz1,hz2,hi0,hi1,hu,hu',hv,hv',huv,huvb,Q3]
   exact⟨i+1,_,⟨hst,.inl (by omega)⟩,by omega,g+1,⟨⟨rfl,rfl⟩,by omega⟩,⟨rfl,rfl⟩,Q90 _ _⟩
  ·rw[Q5l]at hst
   have hog:∀x:List V,(List.map Rn.cs o++[x])[o.length]?=some x:=λx=>by
    have:=qf (l₁:=List.map Rn.cs o) (l₂:=[x]) (i:=o.length) (by simp)
    rw[this];simp
   have hos:∀x y:List V,(List.map Rn.cs o++[x]).set o.length y=List.map Rn.cs o++[y]:=λx y=>by
    rw[jl _ _ (by simp)];simp
   have hot:List.take (o.length+1) (List.map Rn.cs o++[r.cs])=List.map Rn.cs o++[r.cs]:=qe (by simp)
   simp only[Rn.cs]at hot
   have hol2:o.length+1<=i:=by simpa using hol
   by_cases hru:r.b=u
   ·rw[if_pos hru]at hst
    simp (disch:=omega) [go_sem,isV,Qe,hz1,hz2,hi0,hi1,hu,hu',hv,hv',huv,huvb,hog,hos,hot,hru,Rn.cs,Q3]
    exact⟨i+1,_,⟨hst,.inl (by omega)⟩,by omega,g,⟨⟨rfl,by simp⟩,by omega⟩,rfl,by simp[Rn.cs]⟩
   ·rw[if_neg hru]at hst
    have hrb:(r.b == u)=false:=by simpa using hru
    simp (disch:=omega) [go_sem,isV,Qe,hz1,hz2,hi0,hi1,hu,hu',hv,hv',huv,huvb,hog,hos,hot,hru,hrb,Rn.cs,Q3]
    exact⟨⟨by omega,by omega⟩,i+1,_,⟨hst,.inl (by omega)⟩,by omega,g+1,⟨⟨rfl,by simp⟩,by omega⟩,rfl,by simp[Rn.cs]⟩
 ·have hkf:Y7 op (decide (Qb a u)) (decide (Qb b u))=false:=by simpa using hkp
  rw[if_pos (.inr hkf)]at hst
  rw[hkf]at c3
  simp (disch:=omega) [go_sem,isV,Qe,hz1,hz2,hi0,hi1,hu,hu',hv,hv',huv,huvb,Q3]
  refine Ql c1 ?_
  simp (disch:=omega) [go_sem,isV,Qe,hz1,hz2,hi0,hi1,hu,hu',hv,hv',huv,huvb,Q3]
  refine Ql c2 ?_
  simp (disch:=omega) [go_sem,isV,Qe,huv,huvb,Q3]
  refine Ql c3 ?_
  simp (disch:=omega) [go_sem,Q3]
  exact⟨i+1,out,⟨hst,.inl (by omega)⟩,by omega,g,⟨⟨rfl,rfl⟩,by omega⟩,⟨rfl,rfl⟩,Q90 _ _⟩
end
def L16.b (L12:FuncId):C :=
    (.seq
     (.seq
      (.reg [
       ⟨some 23,none,.mv (.t 8)⟩,
       ⟨some 24,none,.fa 0 (.t 4)⟩,
       ⟨some 25,none,.ld none (.t 24)⟩,
       ⟨some 26,none,.len 0 (.t 25)⟩,
       ⟨some 27,none,.bin .lss (.t 23) (.t 26)⟩,
       ⟨some 28,none,.mv (.t 27)⟩,
       ⟨some 29,(some (28,false)),.mv (.t 9)⟩,
       ⟨some 30,(some (28,false)),.fa 0 (.t 5)⟩,
       ⟨some 31,(some (28,false)),.ld none (.t 30)⟩,
       ⟨some 32,(some (28,false)),.len 0 (.t 31)⟩,
       ⟨some 33,(some (28,false)),.bin .lss (.t 29) (.t 32)⟩,
       ⟨some 34,none,.pick (.t 28) (.c (.b true)) (.t 33)⟩])
      (.ite (.t 34)
       .skip
       (.exit 0)))
     (.blk 1
      (.seq
       (.reg [
        ⟨some 10,none,.mv (.c (.i .i64 0))⟩])
       (.seq
        (.reg [
         ⟨some 11,none,.mv (.c .nil)⟩,
         ⟨some 12,none,.mv (.c .nil)⟩])
        (.seq
         (.seq
          (.drw [
           ⟨some 35,none,.mv (.t 9)⟩,
           ⟨some 36,none,.fa 0 (.t 5)⟩,
           ⟨some 37,none,.ld none (.t 36)⟩,
           ⟨some 38,none,.len 0 (.t 37)⟩,
           ⟨some 39,none,.bin .eql (.t 35) (.t 38)⟩,
           ⟨some 40,none,.mv (.t 39)⟩,
           ⟨some 41,(some (40,false)),.mv (.t 8)⟩,
           ⟨some 42,(some (40,false)),.fa 0 (.t 4)⟩,
           ⟨some 43,(some (40,false)),.ld none (.t 42)⟩,
           ⟨some 44,(some (40,false)),.len 0 (.t 43)⟩,
           ⟨some 45,(some (40,false)),.bin .lss (.t 41) (.t 44)⟩,
           ⟨some 46,(some (40,false)),.mv (.t 45)⟩,
           ⟨some 47,(some (46,true)),.fa 0 (.t 4)⟩,
           ⟨some 48,(some (46,true)),.ld none (.t 47)⟩,
           ⟨some 49,(some (46,true)),.mv (.t 8)⟩,
           ⟨some 50,(some (46,true)),.ia 2 (.t 48) (.t 49)⟩,
           ⟨some 51,(some (46,true)),.fa 0 (.t 50)⟩,
           ⟨some 52,(some (46,true)),.ld none (.t 51)⟩,
           ⟨some 53,(some (46,true)),.fa 0 (.t 5)⟩,
           ⟨some 54,(some (46,true)),.ld none (.t 53)⟩,
           ⟨some 55,(some (46,true)),.mv (.t 9)⟩,
           ⟨some 56,(some (46,true)),.ia 2 (.t 54) (.t 55)⟩,
           ⟨some 57,(some (46,true)),.fa 0 (.t 56)⟩,
           ⟨some 58,(some (46,true)),.ld none (.t 57)⟩,
           ⟨some 59,(some (46,true)),.bin .leq (.t 52) (.t 58)⟩,
           ⟨some 60,(some (40,false)),.pick (.t 46) (.t 59) (.c (.b false))⟩,
           ⟨some 61,none,.pick (.t 40) (.c (.b true)) (.t 60)⟩] [])
          (.ite (.t 61)
           (.reg [
            ⟨some 62,none,.fa 0 (.t 4)⟩,
            ⟨some 63,none,.ld none (.t 62)⟩,
            ⟨some 64,none,.mv (.t 8)⟩,
            ⟨some 65,none,.ia 2 (.t 63) (.t 64)⟩,
            ⟨some 66,none,.fa 0 (.t 65)⟩,
            ⟨some 67,none,.ld none (.t 66)⟩,
            ⟨some 10,none,.mv (.t 67)⟩])
           (.reg [
            ⟨some 68,none,.fa 0 (.t 5)⟩,
            ⟨some 69,none,.ld none (.t 68)⟩,
            ⟨some 70,none,.mv (.t 9)⟩,
            ⟨some 71,none,.ia 2 (.t 69) (.t 70)⟩,
            ⟨some 72,none,.fa 0 (.t 71)⟩,
            ⟨some 73,none,.ld none (.t 72)⟩,
            ⟨some 10,none,.mv (.t 73)⟩])))
         (.seq
          (.seq
           (.reg [
            ⟨some 74,none,.mv (.t 8)⟩,
            ⟨some 75,none,.fa 0 (.t 4)⟩,
            ⟨some 76,none,.ld none (.t 75)⟩,
            ⟨some 77,none,.len 0 (.t 76)⟩,
            ⟨some 78,none,.bin .lss (.t 74) (.t 77)⟩,
            ⟨some 79,none,.mv (.t 78)⟩,
            ⟨some 80,(some (79,true)),.fa 0 (.t 4)⟩,
            ⟨some 81,(some (79,true)),.ld none (.t 80)⟩,
            ⟨some 82,(some (79,true)),.mv (.t 8)⟩,
            ⟨some 83,(some (79,true)),.ia 2 (.t 81) (.t 82)⟩,
            ⟨some 84,(some (79,true)),.fa 0 (.t 83)⟩,
            ⟨some 85,(some (79,true)),.ld none (.t 84)⟩,
            ⟨some 86,(some (79,true)),.mv (.t 10)⟩,
            ⟨some 87,(some (79,true)),.bin .eql (.t 85) (.t 86)⟩,
            ⟨some 88,none,.pick (.t 79) (.t 87) (.c (.b false))⟩])
           (.ite (.t 88)
            (.seq
             (.reg [
              ⟨some 89,none,.fa 0 (.t 4)⟩,
              ⟨some 90,none,.ld none (.t 89)⟩,
              ⟨some 91,none,.mv (.t 8)⟩,
              ⟨some 92,none,.ia 2 (.t 90) (.t 91)⟩,
              ⟨some 93,none,.fa 1 (.t 92)⟩,
              ⟨some 94,none,.ld none (.t 93)⟩,
              ⟨some 11,none,.mv (.t 94)⟩])
             (.reg [
              ⟨some 95,none,.mv (.t 8)⟩,
              ⟨some 96,none,.bin .add (.t 95) (.c (.i .i64 1))⟩,
              ⟨some 8,none,.mv (.t 96)⟩]))
            .skip))
          (.seq
           (.seq
            (.reg [
             ⟨some 97,none,.mv (.t 9)⟩,
             ⟨some 98,none,.fa 0 (.t 5)⟩,
             ⟨some 99,none,.ld none (.t 98)⟩,
             ⟨some 100,none,.len 0 (.t 99)⟩,
             ⟨some 101,none,.bin .lss (.t 97) (.t 100)⟩,
             ⟨some 102,none,.mv (.t 101)⟩,
             ⟨some 103,(some (102,true)),.fa 0 (.t 5)⟩,
             ⟨some 104,(some (102,true)),.ld none (.t 103)⟩,
             ⟨some 105,(some (102,true)),.mv (.t 9)⟩,
             ⟨some 106,(some (102,true)),.ia 2 (.t 104) (.t 105)⟩,
             ⟨some 107,(some (102,true)),.fa 0 (.t 106)⟩,
             ⟨some 108,(some (102,true)),.ld none (.t 107)⟩,
             ⟨some 109,(some (102,true)),.mv (.t 10)⟩,
             ⟨some 110,(some (102,true)),.bin .eql (.t 108) (.t 109)⟩,
             ⟨some 111,none,.pick (.t 102) (.t 110) (.c (.b false))⟩])
            (.ite (.t 111)
             (.seq
              (.reg [
               ⟨some 112,none,.fa 0 (.t 5)⟩,
               ⟨some 113,none,.ld none (.t 112)⟩,
               ⟨some 114,none,.mv (.t 9)⟩,
               ⟨some 115,none,.ia 2 (.t 113) (.t 114)⟩,
               ⟨some 116,none,.fa 1 (.t 115)⟩,
               ⟨some 117,none,.ld none (.t 116)⟩,
               ⟨some 12,none,.mv (.t 117)⟩])
              (.reg [
               ⟨some 118,none,.mv (.t 9)⟩,
               ⟨some 119,none,.bin .add (.t 118) (.c (.i .i64 1))⟩,
               ⟨some 9,none,.mv (.t 119)⟩]))
             .skip))
           (.seq
            (.reg [
             ⟨some 120,none,.mv (.t 0)⟩,
             ⟨some 121,none,.mv (.t 11)⟩,
             ⟨some 122,none,.mv (.t 12)⟩,
             ⟨some 123,none,.call L12 [.t 120,.t 121,.t 122]⟩,
             ⟨some 13,none,.mv (.t 123)⟩])
            (.seq
             (.reg [
              ⟨some 124,none,.mv (.t 13)⟩,
              ⟨some 125,none,.len 0 (.t 124)⟩,
              ⟨some 126,none,.bin .gtr (.t 125) (.c (.i .i64 0))⟩])
             (.ite (.t 126)
              (.reg [
               ⟨some 127,none,.fa 0 (.t 7)⟩,
               ⟨some 128,none,.ld none (.t 127)⟩,
               ⟨some 129,none,.mv (.t 10)⟩,
               ⟨some 130,none,.mv (.t 13)⟩,
               ⟨some 131,none,.build [(.i .i64 0),.nil] [(0,1,(.t 129)),(1,1,(.t 130))]⟩,
               ⟨some 132,none,.bso 2 1 [(.i .i64 0),.nil] [(0,(.t 131))]⟩,
               ⟨some 133,none,.app 2 32 (.t 128) (.t 132)⟩,
               ⟨some 134,none,.fa 0 (.t 7)⟩,
               ⟨none,none,.st 1 (.t 134) (.t 133)⟩])
              .skip))))))))))
def opS (op:Int) (a b:List Rw) (p:Nat × Nat × Int × List Rw × Nat):St :=
 ⟨[(0,.i .i64 op),(4,.p 0 1 0 0),(5,.p 1 1 0 0),(6,.p 2 1 0 0),(7,.p 3 1 0 0),(8,.i .i64 p.1),(9,.i .i64 p.2.1)],[.arr 1 1 [[rwL a]],.arr 1 1 [[rwL b]],.arr 1 1 [[.nil]],.arr 1 1 [[.own 4 (p.2.2.2.2+1) 0 p.2.2.2.1.length]],.arr (p.2.2.2.2+1) 2 (p.2.2.2.1.map Rw.cs)]⟩
def Q0a (op:Int) (a b:List Rw) (p:Nat × Nat × Int × List Rw × Nat):Prop:=OpI op a b p.1 p.2.1 p.2.2.1 p.2.2.2.1
def Qbq (a b:List Rw) (p:Nat × Nat × Int × List Rw × Nat):Nat:=a.length+b.length-p.1-p.2.1
def Qan (P:Program) (fc:FuncId) (op:Int) (a b:List Rw) (x:Nat × Nat × Int × List Rw × Nat):Prop:=∀κ,AS P 0 (L16.b fc) (opS op a b x) (Lk 0 (Q0a op a b) (opS op a b) (Qbq a b) x κ)
theorem Qjy {P:Program} {fc:FuncId} {op:Int} {a b:List Rw} {i k:Nat} {Y:Int} {out:List Rw} {g:Nat} (hal:a.length<=8192) (hbl:b.length<=8192) (hil:i<=a.length) (hkl:k<=b.length) (hol:out.length<=i+k) {w:Rw} (h1:i<a.length) (h2:k=b.length) (hq:a[i]?=some w)
  {R:List Rn} (hR:CallIs P fc [.i .i64 op,Qe w.rs,.nil] (Qe R)) (hst:OpI op a b (i+1) (k) w.y (if R=[] then out else out++[⟨w.y,R⟩])):Qan P fc op a b (i,k,Y,out,g):=by
 intro κ
 unfold L16.b opS Q0a Qbq
 simp only[]
 obtain⟨_,hq'⟩:=q8.1 hq
 simp (maxSteps:=2000000) (disch:=omega) [go_sem,rwL,h1,h2,hq,hq',Rw.cs,Q3]
 refine Q5 hR ?_
 have htk:List.take out.length (out.map Rw.cs)=out.map Rw.cs:=qe (by simp)
 by_cases hR0:R=[]
 ·rw[if_pos hR0]at hst
  simp (maxSteps:=2000000) (disch:=omega) [go_sem,Qe,hR0,Q3]
  exact⟨i+1,k,_,out,hst,by omega,⟨by omega,by omega⟩,g,⟨rfl,rfl⟩,⟨rfl,rfl⟩,Xo _ _⟩
 ·rw[if_neg hR0]at hst
  have hRp:0<R.length:=jf.2 hR0
  simp (maxSteps:=2000000) (disch:=omega) [go_sem,Qe,hRp,htk,Q3]
  exact⟨⟨by omega,by omega⟩,i+1,k,_,_,hst,by omega,⟨by omega,by omega⟩,g+1,⟨rfl,by simp⟩,⟨rfl,by simp[Rw.cs,Qe]⟩,Xo _ _⟩
theorem Qjx {P:Program} {fc:FuncId} {op:Int} {a b:List Rw} {i k:Nat} {Y:Int} {out:List Rw} {g:Nat} (hal:a.length<=8192) (hbl:b.length<=8192) (hil:i<=a.length) (hkl:k<=b.length) (hol:out.length<=i+k) {w:Rw} (h1:i=a.length) (h2:k<b.length) (hq:b[k]?=some w)
  {R:List Rn} (hR:CallIs P fc [.i .i64 op,.nil,Qe w.rs] (Qe R)) (hst:OpI op a b (i) (k+1) w.y (if R=[] then out else out++[⟨w.y,R⟩])):Qan P fc op a b (i,k,Y,out,g):=by
 intro κ
 unfold L16.b opS Q0a Qbq
 simp only[]
 obtain⟨_,hq'⟩:=q8.1 hq
 simp (maxSteps:=2000000) (disch:=omega) [go_sem,rwL,h1,h2,hq,hq',Rw.cs,show ¬ (k:Int)=b.length by omega,show ((k:Int) == b.length)=false by simp;omega,Q3]
 refine Q5 hR ?_
 have htk:List.take out.length (out.map Rw.cs)=out.map Rw.cs:=qe (by simp)
 by_cases hR0:R=[]
 ·rw[if_pos hR0]at hst
  simp (maxSteps:=2000000) (disch:=omega) [go_sem,Qe,hR0,Q3]
  exact⟨i,k+1,_,out,hst,by omega,⟨by omega,by omega⟩,g,⟨rfl,rfl⟩,⟨rfl,rfl⟩,Xo _ _⟩
 ·rw[if_neg hR0]at hst
  have hRp:0<R.length:=jf.2 hR0
  simp (maxSteps:=2000000) (disch:=omega) [go_sem,Qe,hRp,htk,Q3]
  exact⟨⟨by omega,by omega⟩,i,k+1,_,_,hst,by omega,⟨by omega,by omega⟩,g+1,⟨rfl,by simp⟩,⟨rfl,by simp[Rw.cs,Qe]⟩,Xo _ _⟩
theorem Qjw {P:Program} {fc:FuncId} {op:Int} {a b:List Rw} {i k:Nat} {Y:Int} {out:List Rw} {g:Nat} (hal:a.length<=8192) (hbl:b.length<=8192) (hil:i<=a.length) (hkl:k<=b.length) (hol:out.length<=i+k) {w v:Rw} (h1:i<a.length) (h2:k<b.length) (hq:a[i]?=some w) (hr:b[k]?=some v) (c:w.y<v.y)
  {R:List Rn} (hR:CallIs P fc [.i .i64 op,Qe w.rs,.nil] (Qe R)) (hst:OpI op a b (i+1) (k) w.y (if R=[] then out else out++[⟨w.y,R⟩])):Qan P fc op a b (i,k,Y,out,g):=by
 intro κ
 unfold L16.b opS Q0a Qbq
 simp only[]
 have hkf:((k:Int) == b.length)=false:=by simp;omega
 obtain⟨_,hq'⟩:=q8.1 hq
 obtain⟨_,hr'⟩:=q8.1 hr
 simp (maxSteps:=2000000) (disch:=omega) [go_sem,rwL,h1,h2,hq,hq',hr,hr',Rw.cs,hkf,show ¬ (k:Int)=b.length by omega,show w.y<=v.y by omega,show ¬ v.y=w.y by omega,show (v.y == w.y)=false by simp;omega,Q3]
 refine Q5 hR ?_
 have htk:List.take out.length (out.map Rw.cs)=out.map Rw.cs:=qe (by simp)
 by_cases hR0:R=[]
 ·rw[if_pos hR0]at hst
  simp (maxSteps:=2000000) (disch:=omega) [go_sem,Qe,hR0,Q3]
  exact⟨i+1,k,_,out,hst,by omega,⟨by omega,by omega⟩,g,⟨rfl,rfl⟩,⟨rfl,rfl⟩,Xo _ _⟩
 ·rw[if_neg hR0]at hst
  have hRp:0<R.length:=jf.2 hR0
  simp (maxSteps:=2000000) (disch:=omega) [go_sem,Qe,hRp,htk,Q3]
  exact⟨⟨by omega,by omega⟩,i+1,k,_,_,hst,by omega,⟨by omega,by omega⟩,g+1,⟨rfl,by simp⟩,⟨rfl,by simp[Rw.cs,Qe]⟩,Xo _ _⟩
theorem Qjv {P:Program} {fc:FuncId} {op:Int} {a b:List Rw} {i k:Nat} {Y:Int} {out:List Rw} {g:Nat} (hal:a.length<=8192) (hbl:b.length<=8192) (hil:i<=a.length) (hkl:k<=b.length) (hol:out.length<=i+k) {w v:Rw} (h1:i<a.length) (h2:k<b.length) (hq:a[i]?=some w) (hr:b[k]?=some v) (c:w.y=v.y)
  {R:List Rn} (hR:CallIs P fc [.i .i64 op,Qe w.rs,Qe v.rs] (Qe R)) (hst:OpI op a b (i+1) (k+1) v.y (if R=[] then out else out++[⟨v.y,R⟩])):Qan P fc op a b (i,k,Y,out,g):=by
 intro κ
 unfold L16.b opS Q0a Qbq
 simp only[]
 have hkf:((k:Int) == b.length)=false:=by simp;omega
 obtain⟨_,hq'⟩:=q8.1 hq
 obtain⟨_,hr'⟩:=q8.1 hr
 simp (maxSteps:=2000000) (disch:=omega) [go_sem,rwL,h1,h2,hq,hq',hr,hr',Rw.cs,hkf,show ¬ (k:Int)=b.length by omega,c,Q3]
 refine Q5 hR ?_
 have htk:List.take out.length (out.map Rw.cs)=out.map Rw.cs:=qe (by simp)
 by_cases hR0:R=[]
 ·rw[if_pos hR0]at hst
  simp (maxSteps:=2000000) (disch:=omega) [go_sem,Qe,hR0,Q3]
  exact⟨i+1,k+1,_,out,hst,by omega,⟨by omega,by omega⟩,g,⟨rfl,rfl⟩,⟨rfl,rfl⟩,Xo _ _⟩
 ·rw[if_neg hR0]at hst
  have hRp:0<R.length:=jf.2 hR0
  simp (maxSteps:=2000000) (disch:=omega) [go_sem,Qe,hRp,htk,Q3]
  exact⟨⟨by omega,by omega⟩,i+1,k+1,_,_,hst,by omega,⟨by omega,by omega⟩,g+1,⟨rfl,by simp⟩,⟨rfl,by simp[Rw.cs,Qe]⟩,Xo _ _⟩
theorem Qju {P:Program} {fc:FuncId} {op:Int} {a b:List Rw} {i k:Nat} {Y:Int} {out:List Rw} {g:Nat} (hal:a.length<=8192) (hbl:b.length<=8192) (hil:i<=a.length) (hkl:k<=b.length) (hol:out.length<=i+k) {w v:Rw} (h1:i<a.length) (h2:k<b.length) (hq:a[i]?=some w) (hr:b[k]?=some v) (c:v.y<w.y)
  {R:List Rn} (hR:CallIs P fc [.i .i64 op,.nil,Qe v.rs] (Qe R)) (hst:OpI op a b (i) (k+1) v.y (if R=[] then out else out++[⟨v.y,R⟩])):Qan P fc op a b (i,k,Y,out,g):=by
 intro κ
 unfold L16.b opS Q0a Qbq
 simp only[]
 have hkf:((k:Int) == b.length)=false:=by simp;omega
 obtain⟨_,hq'⟩:=q8.1 hq
 obtain⟨_,hr'⟩:=q8.1 hr
 simp (maxSteps:=2000000) (disch:=omega) [go_sem,rwL,h1,h2,hq,hq',hr,hr',Rw.cs,hkf,show ¬ (k:Int)=b.length by omega,show ¬ w.y<=v.y by omega,show ¬ w.y=v.y by omega,show (w.y == v.y)=false by simp;omega,Q3]
 refine Q5 hR ?_
 have htk:List.take out.length (out.map Rw.cs)=out.map Rw.cs:=qe (by simp)
 by_cases hR0:R=[]
 ·rw[if_pos hR0]at hst
  simp (maxSteps:=2000000) (disch:=omega) [go_sem,Qe,hR0,Q3]
  exact⟨i,k+1,_,out,hst,by omega,⟨by omega,by omega⟩,g,⟨rfl,rfl⟩,⟨rfl,rfl⟩,Xo _ _⟩
 ·rw[if_neg hR0]at hst
  have hRp:0<R.length:=jf.2 hR0
  simp (maxSteps:=2000000) (disch:=omega) [go_sem,Qe,hRp,htk,Q3]
  exact⟨⟨by omega,by omega⟩,i,k+1,_,_,hst,by omega,⟨by omega,by omega⟩,g+1,⟨rfl,by simp⟩,⟨rfl,by simp[Rw.cs,Qe]⟩,Xo _ _⟩
end Go.Abs
