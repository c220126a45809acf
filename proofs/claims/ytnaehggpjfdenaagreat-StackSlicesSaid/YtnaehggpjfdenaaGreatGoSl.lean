/- Part of the library on which the proof stands: an abstract machine, its values and its soundness against the model; or what functions of the program do to such values. -/
import Derived.Test.YtnaehggpjfdenaaGreatGoRsM
import Derived.Test.YtnaehggpjfdenaaGreatGoRsE
import Derived.Test.YtnaehggpjfdenaaGreatGoTk
import Derived.Test.YtnaehggpjfdenaaGreatGoHeap
import Derived.Test.YtnaehggpjfdenaaGreatAbsCP
import Derived.Test.YtnaehggpjfdenaaGreatGoMap
import Derived.Test.YtnaehggpjfdenaaGreatGoRevC
set_option linter.unusedVariables false
set_option linter.unusedSimpArgs false
namespace Go.Abs
theorem Qhv:∀(l:List Int) (lo hi:Int),l.Pairwise (·<·)->(∀x∈l,lo<=x/\x<hi)->(l.length:Int)<=max 0 (hi-lo)
 | [],lo,hi,_,_=>by simp;omega
 | x::l,lo,hi,hp,h=>by
   obtain⟨h1,h2⟩:=jd.1 hp;have hx:=h x (by simp);have:=Qhv l (x+1) hi h2 λy hy=>by have:=h1 y hy;have:=h y (by simp[hy]);omega
   rw[List.length_cons];omega
theorem RgV.len {g:List Rw} (h:RgV g) (hb:RgB g):g.length<=8192:=by
 have:=Qhv (g.map Rw.y) (-4096) 4096 (by rw[ji];exact h.asc) λy hy=>by
  obtain⟨w,hw,rfl⟩:=qo.1 hy;obtain⟨x,hx⟩:=(h.rs w hw).some (h.ne w hw);exact(hb w.y x ⟨w,hw,rfl,hx⟩).1
 rw[List.length_map]at this
 omega
def RnI (l:List Rn):Prop:=∀r∈l,-4096<=r.a/\r.b<=4096
theorem RnsV.len {l:List Rn} (h:RnsV l) (hb:RnI l):l.length<=8192:=by
 have:=Qhv (l.map Rn.a) (-4096) 4096 (by
  rw[ji];refine List.Pairwise.imp_of_mem ?_ h.2;intro r s hr hs hrs;have:=h.1 r hr;omega) λy hy=>by
  obtain⟨r,hr,rfl⟩:=qo.1 hy;have:=h.1 r hr;have:=hb r hr;omega
 rw[List.length_map]at this
 omega
theorem RgB.rnb {g:List Rw} (h:RgV g) (hb:RgB g) {w:Rw} (hw:w∈g):RnI w.rs:=λr hr=>by
 have:=RgB.run h hb hw hr;omega
theorem RgB.yb {g:List Rw} (h:RgV g) (hb:RgB g) {w:Rw} (hw:w∈g):-4096<=w.y/\w.y<4096:=by
 obtain⟨x,hx⟩:=(h.rs w hw).some (h.ne w hw);exact(hb w.y x ⟨w,hw,rfl,hx⟩).1
def Y9 (l:List Rn) (i:Nat):Int:=if i % 2=1 then ((l[i / 2]?).getD ⟨1048577,1048577⟩).b else ((l[i / 2]?).getD ⟨1048577,1048577⟩).a
theorem B5 (l:List Rn):Y9 l (2*l.length)=1048577:=by
 unfold Y9;rw[if_neg (by omega),show 2*l.length / 2=l.length by omega,qk (Nat.le_refl _)];rfl
theorem B7 {l:List Rn} {k:Nat} {r:Rn} (h:l[k]?=some r):Y9 l (2*k)=r.a:=by
 unfold Y9;rw[if_neg (by omega),show 2*k / 2=k by omega,h];rfl
theorem Q2u {l:List Rn} {k:Nat} {r:Rn} (h:l[k]?=some r):Y9 l (2*k+1)=r.b:=by
 unfold Y9;rw[if_pos (by omega),show (2*k+1) / 2=k by omega,h];rfl
theorem Qht {l:List Rn} (hl:RnsV l) (hb:RnI l) {i:Nat} (h:i<2*l.length):-4096<=Y9 l i/\Y9 l i<=4096:=by
 have hq:l[i / 2]?=some l[i / 2]:=q9 (by omega);have h1:=hb _ (qb hq);have h2:=hl.1 _ (qb hq);unfold Y9;rw[hq];split<;>simp only[Option.getD_some]<;>omega
theorem Qt2 {l:List Rn} (h:RnsV l) {i:Nat} (hi:i+1<2*l.length):Y9 l i<Y9 l (i+1):=by
 have hq:l[i / 2]?=some l[i / 2]:=q9 (by omega);by_cases he:i % 2=1
 ·have hq2:l[i / 2+1]?=some l[i / 2+1]:=q9 (by omega);have e1:=Q2u hq;have e2:=B7 hq2;rw[show 2*(i / 2)+1=i by omega]at e1
  rw[show 2*(i / 2+1)=i+1 by omega]at e2
  rw[e1,e2];exact j8.1 h.2 (i / 2) (i / 2+1) (by omega) (by omega) (by omega)
 ·have e1:=B7 hq;have e2:=Q2u hq;rw[show 2*(i / 2)=i by omega]at e1
  rw[show 2*(i / 2)+1=i+1 by omega]at e2
  rw[e1,e2];exact h.1 _ (qb hq)
theorem B6 {l:List Rn} (h:RnsV l) {i:Nat}:∀{j:Nat},i<j->j<2*l.length->Y9 l i<Y9 l j
 | 0,hij,_=>by omega
 | j+1,hij,hj=>by
   have h1:=Qt2 h hj;by_cases he:i=j
   ·rw[he];exact h1
   ·have:=B6 h (i:=i) (j:=j) (by omega) (by omega);omega
theorem Qsa {l:List Rn} {x:Int}:Qb l x↔∃k,k<l.length/\Y9 l (2*k)<=x/\x<Y9 l (2*k+1):=by
 constructor
 ·rintro⟨r,hr,h⟩;obtain⟨k,hk⟩:=qq hr;refine⟨k,(q8.1 hk).1,?_⟩;rw[B7 hk,Q2u hk];exact h
 ·rintro⟨k,hk,h⟩;have hq:l[k]?=some l[k]:=q9 hk;rw[B7 hq,Q2u hq]at h
  exact⟨_,qb hq,h⟩
structure PosR (l:List Rn) (i:Nat) (X:Int):Prop where
 le:i<=2*l.length
 lo:∀k,k<i->Y9 l k<=X
 hi:∀k,i<=k->k<2*l.length->X<Y9 l k
theorem PosR.start {l:List Rn} (h:RnsV l) (hb:RnI l):PosR l 0 (-5000):=⟨by omega,by omega,λk _ hk=>by have:=Qht h hb hk;omega⟩
theorem PosR.inn {l:List Rn} (h:RnsV l) {i:Nat} {X x:Int} (hp:PosR l i X) (h1:X<=x) (h2:i<2*l.length->x<Y9 l i):Qb l x↔i % 2=1:=by
 have hle:=hp.le;rw[Qsa];constructor
 ·rintro⟨k,hk,h3,h4⟩;refine jb λhne=>?_
  by_cases hki:2*k+1<i
  ·have:=hp.lo _ hki;omega
  ·have h5:i<2*l.length:=by omega
   have h6:=h2 h5;by_cases he:i=2*k
   ·rw[he]at h6;omega
   ·have:=B6 h (i:=i) (j:=2*k) (by omega) (by omega);omega
 ·intro ho;have h5:i<2*l.length:=by omega
  refine⟨i / 2,by omega,?_,?_⟩
  ·have:=hp.lo (2*(i / 2)) (by omega);omega
  ·rw[show 2*(i / 2)+1=i by omega];exact h2 h5
theorem PosR.step {l:List Rn} (h:RnsV l) (hb:RnI l) {i:Nat} {X x:Int} (hp:PosR l i X) (h1:X<x) (h2:x<=Y9 l i) (h3:x<1048577):PosR l (if Y9 l i=x then i+1 else i) x:=by
 have hle:=hp.le;have hov:=B5 l;have hil:Y9 l i=x->i<2*l.length:=λhe=>by
  refine jb λhn=>?_
  have:i=2*l.length:=by omega
  rw[this,hov]at he;omega
 split
 ·rename_i he;have hi2:=hil he;refine⟨by omega,λk hk=>?_,λk hk hk2=>?_⟩
  ·by_cases hki:k=i
   ·rw[hki];omega
   ·have:=hp.lo k (by omega);omega
  ·have:=B6 h (i:=i) (j:=k) (by omega) hk2;omega
 ·refine⟨hle,λk hk=>?_,λk hk hk2=>?_⟩
  ·have:=hp.lo k hk;omega
  ·by_cases hki:i=k
   ·rw[<- hki];omega
   ·have:=B6 h (i:=i) (j:=k) (by omega) hk2;omega
def Bt (i j:Nat):Bool:=decide (i % 2=1) || decide (j % 2=1)
structure SwI (a b:List Rn) (i j:Nat) (X:Int) (out:List Rn):Prop where
 pa:PosR a i X
 pb:PosR b j X
 cl:Bt i j=false->RnsV out/\(∀r∈out,r.b<=X)/\∀x,x<X->(Qb out x↔Qb a x∨Qb b x)
 op:Bt i j=true->∃o f,out=o++[⟨f,0⟩]/\RnsV o/\(∀r∈o,r.b<f)/\f<=X/\∀x,x<X->(Qb o x∨f<=x↔Qb a x∨Qb b x)
 len:out.length<=i+j
theorem Qk3 {l:List Rn} (hb:RnI l) {x:Int} (h:Qb l x):-4096<=x/\x<4096:=by
 obtain⟨r,hr,h1,h2⟩:=h;have:=hb r hr;omega
theorem SwI.start {a b:List Rn} (ha:RnsV a) (hb:RnsV b) (ha2:RnI a) (hb2:RnI b):SwI a b 0 0 (-5000) [] where
 pa:=PosR.start ha ha2
 pb:=PosR.start hb hb2
 cl _:=⟨RnsV.nil,by simp,λx hx=>⟨λh=>absurd h (Qj _),λh=>by
  rcases h with h | h
  ·have:=Qk3 ha2 h;omega
  ·have:=Qk3 hb2 h;omega⟩⟩
 op h:=by simp[Bt]at h
 len:=by simp
theorem SwI.done {a b out U:List Rn} {X:Int} (ha:RnsV a) (hb:RnsV b) (h:SwI a b (2*a.length) (2*b.length) X out) (hU:RnsV U) (hUx:∀x,Qb U x↔Qb a x∨Qb b x):out=U:=by
 obtain⟨h1,h2,h3⟩:=h.cl (by simp[Bt]);refine h1.ext hU λx=>?_
 rw[hUx];by_cases hx:x<X
 ·exact h3 x hx
 ·have e1:=h.pa.inn ha (x:=x) (by omega) (by omega);have e2:=h.pb.inn hb (x:=x) (by omega) (by omega);rw[e1,e2];constructor
  ·rintro⟨r,hr,hr2,hr3⟩;have:=h2 r hr;omega
  ·omega
def Q01 (x:Int) (was now:Bool) (out:List Rn):List Rn :=
 if now && !was then out++[⟨x,0⟩] else if !now && was then out.dropLast++[⟨((out.getLast?).getD ⟨0,0⟩).a,x⟩] else out
def swN (l:List Rn) (i:Nat) (x:Int):Nat:=if Y9 l i=x then i+1 else i
theorem SwI.step {a b out:List Rn} {i j:Nat} {X x:Int} (ha:RnsV a) (hb:RnsV b) (ha2:RnI a) (hb2:RnI b) (h:SwI a b i j X out) (hx:x=min (Y9 a i) (Y9 b j)) (hij:i<2*a.length∨j<2*b.length) :
  SwI a b (swN a i x) (swN b j x) x (Q01 x (Bt i j) (Bt (swN a i x) (swN b j x)) out):=by
 have hx1:x<=4096:=by
  rcases hij with h1 | h1
  ·have:=Qht ha ha2 h1;omega
  ·have:=Qht hb hb2 h1;omega
 have hov1:=B5 a;have hov2:=B5 b;have gt1:X<Y9 a i∨(i=2*a.length):=by
  by_cases h1:i<2*a.length
  ·exact .inl (h.pa.hi i (Nat.le_refl _) h1)
  ·have:=h.pa.le;exact .inr (by omega)
 have gt2:X<Y9 b j∨(j=2*b.length):=by
  by_cases h1:j<2*b.length
  ·exact .inl (h.pb.hi j (Nat.le_refl _) h1)
  ·have:=h.pb.le;exact .inr (by omega)
 have hXx:X<x:=by
  have hX:X<1048577:=by
   rcases gt1 with g1 | g1
   ·rcases gt2 with g2 | g2
    ·omega
    ·rw[g2,hov2]at hx;omega
   ·rcases gt2 with g2 | g2
    ·rw[g1,hov1]at hx;omega
    ·omega
  rcases gt1 with g1 | g1<;>rcases gt2 with g2 | g2
  ·omega
  ·rw[g2,hov2]at hx;omega
  ·rw[g1,hov1]at hx;omega
  ·omega
 have ia:=λy (h1:X<=y) (h2:y<x)=>h.pa.inn ha (x:=y) h1 (λ_=>by omega)
 have ib:=λy (h1:X<=y) (h2:y<x)=>h.pb.inn hb (x:=y) h1 (λ_=>by omega)
 have iab:∀y,X<=y->y<x->((Qb a y∨Qb b y)↔Bt i j=true):=λy h1 h2=>by
  rw[ia y h1 h2,ib y h1 h2];unfold Bt;simp
 have hpa:=h.pa.step ha ha2 hXx (by omega) (by omega);have hpb:=h.pb.step hb hb2 hXx (by omega) (by omega);have hlen:=h.len;have hsn:i<=swN a i x/\j<=swN b j x:=by unfold swN;constructor<;>split<;>omega
 have hsn2:i+j+1<=swN a i x+swN b j x:=by
  have:Y9 a i=x∨Y9 b j=x:=by omega
  unfold swN;rcases this with h1 | h1
  ·rw[if_pos h1];split<;>omega
  ·rw[if_pos h1];split<;>omega
 cases hw:Bt i j with
 | false =>
   obtain⟨c1,c2,c3⟩:=h.cl hw;have hno:∀y,X<=y->¬ Qb out y:=λy hy ⟨r,hr,h1,h2⟩=>by have:=c2 r hr;omega
   have hall:∀y,y<x->(Qb out y↔Qb a y∨Qb b y):=λy hy=>by
    by_cases h1:y<X
    ·exact c3 y h1
    ·rw[iab y (by omega) hy,hw];simp[hno y (by omega)]
   cases hn:Bt (swN a i x) (swN b j x) with
   | false=>exact⟨hpa,hpb,λ_=>⟨c1,λr hr=>by have:=c2 r hr;omega,hall⟩,λhh=>by rw[hn]at hh;simp at hh,by simp[Q01];omega⟩
   | true =>
     refine⟨hpa,hpb,λhh=>by rw[hn]at hh;simp at hh,λ_=>⟨out,x,by simp[Q01],c1,λr hr=>by have:=c2 r hr;omega,Int.le_refl _,λy hy=>?_⟩,by simp[Q01];omega⟩;rw[<- hall y hy];constructor
     ·rintro (h1 | h1)
      ·exact h1
      ·omega
     ·exact .inl
 | true =>
   obtain⟨o,f,c0,c1,c2,c3,c4⟩:=h.op hw;have hall:∀y,y<x->(Qb o y∨f<=y↔Qb a y∨Qb b y):=λy hy=>by
    by_cases h1:y<X
    ·exact c4 y h1
    ·rw[iab y (by omega) hy,hw];simp;exact .inr (by omega)
   cases hn:Bt (swN a i x) (swN b j x) with
   | true=>exact⟨hpa,hpb,λhh=>by rw[hn]at hh;simp at hh,λ_=>⟨o,f,by simp[Q01,c0],c1,c2,by omega,hall⟩,by simp[Q01];omega⟩
   | false =>
     have e:Q01 x true false out=o++[⟨f,x⟩]:=by rw[c0];simp[Q01]
     refine⟨hpa,hpb,λ_=>?_,λhh=>by rw[hn]at hh;simp at hh,?_⟩
     ·rw[e];refine⟨RnsV.snoc.2 ⟨c1,by simp only[];omega,λr hr=>c2 r hr⟩,λr hr=>?_,λy hy=>?_⟩
      ·rcases qg.1 hr with hr | hr
       ·have:=c2 r hr;omega
       ·rw[qn.1 hr];exact Int.le_refl _
      ·rw[<- hall y hy,Yz,inRns_cons];simp only[Qj,or_false];constructor
       ·rintro (h1 | ⟨h1,_⟩)
        ·exact .inl h1
        ·exact .inr h1
       ·rintro (h1 | h1)
        ·exact .inl h1
        ·exact .inr ⟨h1,hy⟩
     ·rw[e];rw[c0]at hlen
      simp only[j7,List.length_cons,List.length_nil]at hlen ⊢;omega
def Xt (op:Int) (a b:Bool):Bool:=if op=0 then a || b else if op=1 then a && b else a && !b
theorem U4 (op:Int):Xt op false false=false:=by unfold Xt;split<;>(try split)<;>rfl
noncomputable def opR (op:Int) (g k:List Rw):List Rw:=open Classical in K7 λy x=>Xt op (decide (Zx g y x)) (decide (Zx k y x))
theorem Qjk (op:Int) (g k:List Rw):RgV (opR op g k):=Q2t _
theorem Qvs (op:Int) (g k:List Rw):RgB (opR op g k):=Qbf _
theorem Qvr (g k:List Rw):opR 0 g k=Jj g k:=by
 unfold opR Jj;congr 1;funext y x;by_cases h1:Zx g y x<;>by_cases h2:Zx k y x<;>simp[Xt,h1,h2]
open Classical in
theorem Qmz {op:Int} {g k:List Rw} (hg:RgB g) (hk:RgB k) {y x:Int}:Zx (opR op g k) y x↔Xt op (decide (Zx g y x)) (decide (Zx k y x))=true:=by
 unfold opR;rw[in_canonR];constructor
 ·exact λh=>h.2.2
 ·intro h;have hb:(-4096<=y/\y<4096)/\-4096<=x/\x<4096:=by
   by_cases h1:Zx g y x
   ·exact hg y x h1
   ·by_cases h2:Zx k y x
    ·exact hk y x h2
    ·rw[decide_eq_false h1,decide_eq_false h2,U4]at h
     simp at h
  exact⟨hb.1,hb.2,h⟩
theorem Q5g {l:List Rn} {u x:Int} (hux:u<=x) (h:∀r∈l,(r.a<=u∨x<r.a)/\(r.b<=u∨x<r.b)):Qb l x↔Qb l u:=by
 unfold Qb;constructor
 ·rintro⟨r,hr,h1,h2⟩;have:=h r hr;exact⟨r,hr,by omega,by omega⟩
 ·rintro⟨r,hr,h1,h2⟩;have:=h r hr;exact⟨r,hr,by omega,by omega⟩
def Y1 (l:List Rn):List Int:=l.flatMap λr=>[r.a,r.b]
theorem X8 {l:List Rn} {r:Rn} (h:r∈l):r.a∈Y1 l/\r.b∈Y1 l:=by
 unfold Y1;exact⟨jr.2 ⟨r,h,by simp⟩,jr.2 ⟨r,h,by simp⟩⟩
structure CbI (op:Int) (a b:List Rn) (L:List Int) (i:Nat) (out:List Rn):Prop where
 v:RnsV out
 le:∀u,L[i]?=some u->(∀r∈out,r.b<=u)/\∀x,x<u->(Qb out x↔Xt op (decide (Qb a x)) (decide (Qb b x))=true)
 len:out.length<=i
theorem CbI.start {op:Int} {a b:List Rn} {L:List Int} (hs:L.Pairwise (·<=·)) (hm:∀x,x∈L↔x∈Y1 a++Y1 b):CbI op a b L 0 [] where
 v:=RnsV.nil
 le u hu:=by
  refine⟨by simp,λx hx=>?_⟩;have hmin:∀y∈L,u<=y:=λy hy=>by
   cases L with
   | nil=>simp at hy
   | cons z L =>
     simp at hu;subst hu;rcases List.mem_cons.1 hy with rfl | hy
     ·exact Int.le_refl _
     ·exact(jd.1 hs).1 y hy
  have h1:¬ Qb a x:=λ⟨r,hr,h1,h2⟩=>by have:=hmin r.a ((hm _).2 (qg.2 (.inl (X8 hr).1)));omega
  have h2:¬ Qb b x:=λ⟨r,hr,h1,h2⟩=>by have:=hmin r.a ((hm _).2 (qg.2 (.inr (X8 hr).1)));omega
  rw[decide_eq_false h1,decide_eq_false h2,U4];simp[Qj]
 len:=by simp
def Q5m (u v:Int) (out:List Rn):List Rn:=match out.getLast? with
 | some r=>if r.b=u then out.dropLast++[⟨r.a,v⟩] else out++[⟨u,v⟩]
 | none=>out++[⟨u,v⟩]
theorem Qes (u v:Int):Q5m u v []=[⟨u,v⟩]:=rfl
theorem Qet (o:List Rn) (r:Rn) (u v:Int):Q5m u v (o++[r])=if r.b=u then o++[⟨r.a,v⟩] else o++[r]++[⟨u,v⟩]:=by
 unfold Q5m;rw[List.getLast?_concat];simp
theorem CbI.step {op:Int} {a b:List Rn} {L:List Int} {i:Nat} {out:List Rn} {u v:Int} (hs:L.Pairwise (·<=·)) (hm:∀x,x∈L↔x∈Y1 a++Y1 b) (h:CbI op a b L i out) (hu:L[i]?=some u) (hv:L[i+1]?=some v) :
  CbI op a b L (i+1) (if u=v∨Xt op (decide (Qb a u)) (decide (Qb b u))=false then out else Q5m u v out):=by
 obtain⟨h1,h2⟩:=h.le u hu;have hlen:=h.len;obtain⟨hi,hu'⟩:=q8.1 hu;obtain⟨hj,hv'⟩:=q8.1 hv;have huv:u<=v:=by
  have:=j8.1 hs i (i+1) hi hj (by omega);omega
 have hgap:∀y∈L,y<=u∨v<=y:=λy hy=>by
  obtain⟨k,hk⟩:=qq hy;obtain⟨hkl,hk'⟩:=q8.1 hk;by_cases hki:k<=i
  ·left
   by_cases he:k=i
   ·subst he;omega
   ·have:=j8.1 hs k i hkl hi (by omega);omega
  ·right
   by_cases he:k=i+1
   ·subst he;omega
   ·have:=j8.1 hs (i+1) k hj hkl (by omega);omega
 have hcon:∀x,u<=x->x<v->(Qb a x↔Qb a u)/\(Qb b x↔Qb b u):=λx hx1 hx2=>by
  refine⟨Q5g hx1 λr hr=>?_,Q5g hx1 λr hr=>?_⟩
  ·have e1:=hgap r.a ((hm _).2 (qg.2 (.inl (X8 hr).1)));have e2:=hgap r.b ((hm _).2 (qg.2 (.inl (X8 hr).2)));omega
  ·have e1:=hgap r.a ((hm _).2 (qg.2 (.inr (X8 hr).1)));have e2:=hgap r.b ((hm _).2 (qg.2 (.inr (X8 hr).2)));omega
 have hkeep:∀x,u<=x->x<v->Xt op (decide (Qb a x)) (decide (Qb b x))=Xt op (decide (Qb a u)) (decide (Qb b u)):=λx hx1 hx2=>by
  obtain⟨c1,c2⟩:=hcon x hx1 hx2;simp only[c1,c2]
 have hno:∀x,u<=x->¬ Qb out x:=λx hx ⟨r,hr,e1,e2⟩=>by have:=h1 r hr;omega
 split
 ·rename_i hc;refine⟨h.v,λv' hv2=>?_,by omega⟩;obtain rfl:v=v':=by rw[hv]at hv2;simpa using hv2
  refine⟨λr hr=>by have:=h1 r hr;omega,λx hx=>?_⟩;by_cases hxu:x<u
  ·exact h2 x hxu
  ·have:Xt op (decide (Qb a u)) (decide (Qb b u))=false:=by
    rcases hc with hc | hc
    ·omega
    ·exact hc
   rw[hkeep x (by omega) hx,this];simp[hno x (by omega)]
 ·rename_i hc;have hne:u<v:=by
   refine jb λhn=>hc (.inl (by omega))
  have hk:Xt op (decide (Qb a u)) (decide (Qb b u))=true:=by
   cases hh:Xt op (decide (Qb a u)) (decide (Qb b u))
   ·exact absurd (.inr hh) hc
   ·rfl
  have key:RnsV (Q5m u v out)/\(∀r∈Q5m u v out,r.b<=v)/\(∀x,Qb (Q5m u v out) x↔Qb out x∨(u<=x/\x<v))/\(Q5m u v out).length<=out.length+1:=by
   have hv0:=h.v;rcases Zu out with rfl | ⟨o,r,rfl⟩
   ·rw[Qes];refine⟨⟨by simp;omega,by simp⟩,by simp,λx=>?_,by simp⟩;simp only[inRns_cons,Qj,or_false,false_or]
   ·obtain⟨g1,g2,g3⟩:=RnsV.snoc.1 hv0;have hr:=h1 r (by simp);rw[Qet];by_cases he:r.b=u
    ·rw[if_pos he];refine⟨RnsV.snoc.2 ⟨g1,by simp only[];omega,λs hs=>g3 s hs⟩,λs hs=>?_,λy=>?_,by simp⟩
     ·rcases qg.1 hs with hs | hs
      ·have:=h1 s (by simp[hs]);omega
      ·rw[qn.1 hs];exact Int.le_refl _
     ·simp only[Yz,inRns_cons,Qj,or_false];by_cases hk:Qb o y<;>simp only[hk,true_or,false_or,or_true]<;>omega
    ·rw[if_neg he];refine⟨RnsV.snoc.2 ⟨hv0,by simp only[];omega,λs hs=>?_⟩,λs hs=>?_,λy=>?_,by simp⟩
     ·rcases qg.1 hs with hs | hs
      ·have:=g3 s hs;simp only[];omega
      ·rw[qn.1 hs];simp only[];omega
     ·rcases qg.1 hs with hs | hs
      ·have:=h1 s hs;omega
      ·rw[qn.1 hs];exact Int.le_refl _
     ·simp only[Yz,inRns_cons,Qj,or_false]
  obtain⟨k1,k2,k3,k4⟩:=key;refine⟨k1,λv' hv2=>?_,by omega⟩;obtain rfl:v=v':=by rw[hv]at hv2;simpa using hv2
  refine⟨k2,λx hx=>?_⟩;rw[k3];by_cases hxu:x<u
  ·rw[h2 x hxu];constructor
   ·rintro (h3 | h3)
    ·exact h3
    ·omega
   ·exact .inl
  ·rw[hkeep x (by omega) hx,hk];simp;exact .inr ⟨by omega,hx⟩
theorem CbI.done {op:Int} {a b:List Rn} {L:List Int} {i:Nat} {out U:List Rn} (hs:L.Pairwise (·<=·)) (hm:∀x,x∈L↔x∈Y1 a++Y1 b) (h:CbI op a b L i out) (hi:L.length<=i+1) (hi2:i+1<=L.length∨i=0)
  (hU:RnsV U) (hUx:∀x,Qb U x↔Xt op (decide (Qb a x)) (decide (Qb b x))=true):out=U:=by
 refine h.v.ext hU λx=>?_
 rw[hUx];by_cases h0:L=[]
 ·subst h0;have e1:a=[]:=by
   cases a with
   | nil=>rfl
   | cons r a=>have:=(hm r.a).2 (qg.2 (.inl (X8 (by simp)).1));simp at this
  have e2:b=[]:=by
   cases b with
   | nil=>rfl
   | cons r b=>have:=(hm r.a).2 (qg.2 (.inr (X8 (by simp)).1));simp at this
  have e3:out=[]:=by
   have:=h.len;rcases hi2 with hh | hh
   ·simp at hh
   ·exact ql (by omega)
  rw[e1,e2,e3];simp[Qj,U4]
 ·have hL:0<L.length:=jl.2 h0;have hil:i+1=L.length:=by omega
  have hq:L[i]?=some L[i]:=q9 (by omega);obtain⟨h1,h2⟩:=h.le _ hq;by_cases hx:x<L[i]
  ·exact h2 x hx
  ·have hmax:∀y∈L,y<=L[i]:=λy hy=>by
    obtain⟨k,hk⟩:=qq hy;obtain⟨hkl,hk'⟩:=q8.1 hk;by_cases he:k=i
    ·subst he;omega
    ·have:=j8.1 hs k i hkl (by omega) (by omega);omega
   have n1:¬ Qb a x:=λ⟨r,hr,g1,g2⟩=>by have:=hmax r.b ((hm _).2 (qg.2 (.inl (X8 hr).2)));omega
   have n2:¬ Qb b x:=λ⟨r,hr,g1,g2⟩=>by have:=hmax r.b ((hm _).2 (qg.2 (.inr (X8 hr).2)));omega
   have n3:¬ Qb out x:=λ⟨r,hr,g1,g2⟩=>by have:=h1 r hr;omega
   rw[decide_eq_false n1,decide_eq_false n2,U4];simp[n3]
end Go.Abs
namespace Go.Abs
open Go.Sort
theorem Qnc {t:T3} {e:P2} (h:e∈Q4 t):e.x≠e.y:=by
 unfold Q4 Qz at h;have:=(qu.1 h).2;simpa using this
theorem Qnq {l:List T3} {e:P2} (h:e∈Q7 l):e.x≠e.y:=by
 obtain⟨t,_,ht⟩:=jr.1 h;exact Qnc ht
theorem Que {e:P2} (h:e.x<e.y):e.und=e:=by cases e;simp only[P2.und,P2.mk.injEq]at h ⊢;omega
theorem und_gt {e:P2} (h:¬ e.x<e.y):e.und=e.rev:=by cases e;simp only[P2.und,P2.rev,P2.mk.injEq]at h ⊢;omega
def isV (l:List Int):V:=.l 1 (l.map λx=>[.i .i64 x])
def bl (n:Nat) (g:Nat->Bool):List (List V):=(List.range n).map λj=>[.b (g j)]
theorem Ux (n:Nat) (g:Nat->Bool):(bl n g).length=n:=by simp[bl]
theorem Q4t {n:Nat} {g:Nat->Bool} {i:Nat} (h:i<n):(bl n g)[i]?=some [.b (g i)]:=by simp[bl,h]
theorem Qzd (n:Nat):List.replicate n [V.b false]=bl n (λ_=>false):=by
 apply qy;intro i;by_cases h:i<n
 ·rw[Q4t h];simp[h]
 ·rw[qk (by simp;omega),qk (by rw[Ux];omega)]
theorem Qzc (n:Nat) (g:Nat->Bool) (i:Nat) (b:Bool):(bl n g).set i [.b b]=bl n (λj=>if j=i then b else g j):=by
 apply qy;intro j;by_cases h:j<n
 ·rw[Q4t h];by_cases hj:i=j
  ·subst hj;rw[qm (by rw[Ux];exact h),if_pos rfl]
  ·rw[qt hj,Q4t h,if_neg (λhh=>hj hh.symm)]
 ·rw[qk (by simp[Ux];omega),qk (by rw[Ux];omega)]
theorem Qkv (n:Nat) (g:Nat->Bool) (k:Nat):∀el∈bl n g,∀x∈el,x.cl k=true:=by
 intro el hel x hx;obtain⟨j,_,rfl⟩:=qo.1 hel;simp at hx;subst hx;rfl
theorem Qze (n:Nat) (g:Nat->Bool):∀el∈bl n g,∀x∈el,x.isD=true:=by
 intro el hel x hx;obtain⟨j,_,rfl⟩:=qo.1 hel;simp at hx;subst hx;rfl
def ics (l:List Int):List (List V):=l.map λx=>[.i .i64 x]
def lsV (ls:List (List Int)):V:=.l 1 (ls.map λl=>[isV l])
def Held (b:Nat) (hx:List O) (ls:List (List Int)) (cells:List (List V)):Prop :=
 cells.length=ls.length/\∀(i:Nat) (c:List V) (l:List Int),cells[i]?=some c->ls[i]?=some l->∃j g,c=[.own (b+j) g 0 l.length]/\hx[j]?=some (.arr g 1 (ics l))
def Flt (hx:List O):Prop:=∀o∈hx,∀n,o.cl n
theorem Held.nil (b:Nat):Held b [] [] []:=⟨rfl,by simp⟩
theorem Held.app {b:Nat} {hx:List O} {ls:List (List Int)} {cells:List (List V)} (h:Held b hx ls cells) (l:List O):Held b (hx++l) ls cells :=
 ⟨h.1,λi c x h1 h2=>by obtain⟨j,g,h3,h4⟩:=h.2 i c x h1 h2;exact⟨j,g,h3,by rw[qd (q8.1 h4).1];exact h4⟩⟩
theorem Held.snoc {b:Nat} {hx:List O} {ls:List (List Int)} {cells:List (List V)} (h:Held b hx ls cells) {j g:Nat} {l:List Int} (hj:hx[j]?=some (.arr g 1 (ics l))):Held b hx (ls++[l]) (cells++[[.own (b+j) g 0 l.length]]):=by
 refine⟨by simp[h.1],λi c x h1 h2=>?_⟩;by_cases hi:i<ls.length
 ·rw[qd (by rw[h.1];exact hi)]at h1
  rw[qd hi]at h2
  exact h.2 i c x h1 h2
 ·rw[qf (by rw[h.1];omega)]at h1
  rw[qf (by omega)]at h2
  have hi0:i-ls.length=0:=by
   have:=(q8.1 h2).1;simp at this;omega
  rw[h.1,hi0]at h1
  rw[hi0]at h2
  simp at h1 h2;subst h1;subst h2;exact⟨j,g,rfl,hj⟩
theorem Held.cl {b:Nat} {hx:List O} {ls:List (List Int)} {cells:List (List V)} (h:Held b hx ls cells) {n:Nat} (hn:b+hx.length<=n):∀el∈cells,∀x∈el,x.cl n=true:=by
 intro el hel x hx';obtain⟨i,hi⟩:=qq hel;have hlt:=(q8.1 hi).1;obtain⟨j,g,rfl,h4⟩:=h.2 i el _ hi (q9 (by rw[<- h.1];exact hlt));have:=(q8.1 h4).1;simp at hx';subst hx';simp[V.cl,V.cl1,V.cl0];omega
theorem Q7x (l:List Int):∀el∈ics l,∀x∈el,x.isD=true:=by
 intro el hel x hx;obtain⟨a,_,rfl⟩:=qo.1 hel;simp at hx;subst hx;rfl
theorem Xu (l:List Int) (n:Nat):∀el∈ics l,∀x∈el,x.cl n=true:=λel hel x hx=>K4 n (Q7x l el hel x hx)
theorem Held.frz {b:Nat} {base hx:List O} {ls:List (List Int)} {cells:List (List V)} (h:Held b hx ls cells) (hb:base.length=b):cells.mapM (λel=>el.mapM (Bv (base++hx)))=some (ls.map λl=>[isV l]):=by
 induction cells generalizing ls with
 | nil =>
   have:=h.1;simp at this;obtain rfl:=List.length_eq_zero_iff.1 this.symm
   rfl
 | cons c cells ih =>
   have hl:=h.1;cases ls with
   | nil=>simp at hl
   | cons l ls =>
     have h0:=h.2 0 c l rfl rfl;obtain⟨j,g,rfl,hj⟩:=h0;have ht:Held b hx ls cells:=⟨by simpa using hl,λi c x h1 h2=>h.2 (i+1) c x (by simpa using h1) (by simpa using h2)⟩
     have hg:(base++hx)[b+j]?=some (.arr g 1 (ics l)):=by rw[<- hb,Qf];exact hj
     have ha:(ics l).all (λx=>x.all V.isD)=true:=by
      rw[qj];exact λel hel=>qj.2 (Q7x l el hel)
     have hlen:(ics l).length=l.length:=by simp[ics]
     have hfr:Bv (base++hx) (.own (b+j) g 0 l.length)=some (isV l):=by
      have ht2:List.take l.length (ics l)=ics l:=qe (by omega);show _=some (V.l 1 (ics l));simp only[Bv,Ys,hg];rw[List.drop_zero,ht2,if_pos ⟨trivial,by omega,ha⟩]
     simp[List.mapM_cons,hfr,ih ht]
theorem Qpc {b:Nat} {base hx:List O} {ls:List (List Int)} {cells:List (List V)} (h:Held b hx ls cells) (hb:base.length=b) :
  (if ls.length<=cells.length then Option.map (V.l 1) (List.mapM (λel=>List.mapM (Bv (base++hx)) el) (List.take ls.length cells)) else none)=some (lsV ls):=by
 have h1:=h.frz hb;have ht:List.take ls.length cells=cells:=qe (by rw[h.1];exact Nat.le_refl _);simp only[ht,h1,h.1,Nat.le_refl,if_true,Option.map_some,lsV]
theorem Qku {n:Nat} {g g':Nat->Bool} (h:∀j,j<n->g j=g' j):bl n g=bl n g':=by
 unfold bl;exact jv λj hj=>by rw[h j (qz.1 hj)]
def mk (n:Nat) (done:List Int):List (List V):=bl n λj=>decide ((j:Int)∈done)
theorem mk_nil (n:Nat):List.replicate n [V.b false]=mk n []:=by rw[Qzd];exact Qku λj _=>by simp
theorem Qw7 {n:Nat} {d:List Int} {v:Int} (h0:0<=v):(mk n d).set v.toNat [.b true]=mk n (d++[v]):=by
 unfold mk;rw[Qzc];refine Qku λj _=>?_
 by_cases hj:j=v.toNat
 ·have:(j:Int)=v:=by omega
  simp[hj,show ((v.toNat:Nat):Int)=v by omega]
 ·have:(j:Int)≠v:=by omega
  simp[hj,this]
theorem Qw8 {n:Nat} {d:List Int} {v:Int} (h0:0<=v) (h1:v<n):(mk n d)[v.toNat]?=some [.b (decide (v∈d))]:=by
 unfold mk;rw[Q4t (by omega),show ((v.toNat:Nat):Int)=v by omega]
theorem mk_cl (n:Nat) (d:List Int) (k:Nat):∀el∈mk n d,∀x∈el,x.cl k=true:=Qkv _ _ _
theorem Flt.app {a b:List O} (h:Flt a) (k:Flt b):Flt (a++b):=λo ho n=>by
 rcases qg.1 ho with h1 | h1
 ·exact h o h1 n
 ·exact k o h1 n
theorem Flt.WeakH {hx l:List O} (h:Flt hx) (n:Nat):WeakH n (hx++l) hx:=Q19 λo ho=>h o ho n
theorem Flt.WeakH' {hx:List O} (h:Flt hx) (n:Nat):Go.Abs.WeakH n hx hx:=by
 have:=h.WeakH (l:=[]) n
 rwa [List.append_nil]at this
section
variable {K β:Type} [DecidableEq K]
def Zf (e:K):List (K × β)->Option (Nat × β)
 | []=>none
 | (k,n)::r=>if e=k then some (0,n) else (Zf e r).map λp=>(p.1+1,p.2)
structure KeyOk (ls:List Nat) (en:K->V):Prop where
 shape:∀a,Zl ls (en a)=true
 len:∀a,(en a).cells.length=ls.length
 eq:∀a b,Zi ls (en a).cells (en b).cells=some (decide (a=b))
def asG (en:K->V) (ev:β->V) (p:K × β):V × V:=(en p.1,ev p.2)
theorem Ke {ls:List Nat} {en:K->V} (O:KeyOk ls en) (ev:β->V) (e:K):∀L:List (K × β),Qo ls (en e) (L.map (asG en ev))=some ((Zf e L).map λp=>(p.1,ev p.2))
 | []=>by simp[Qo,O.shape,O.len,Zf]
 | (k,n)::r=>by
   simp only[List.map_cons,asG,Qo,Zf,O.shape,O.eq,Bool.and_self,if_true];by_cases h:e=k
   ·simp[h]
   ·simp only[h,decide_false,if_false];have:=Ke O ev e r;rw[this];cases Zf e r<;>rfl
theorem fndG_none {e:K}:∀{L:List (K × β)},Zf e L=none↔e∉L.map Prod.fst
 | []=>by simp[Zf]
 | (k,n)::r=>by
   simp only[Zf];by_cases h:e=k
   ·simp[h]
   ·rw[if_neg h,Option.map_eq_none_iff,fndG_none (L:=r)];simp[h]
theorem Y7 {e:K}:∀{L:List (K × β)} {i:Nat} {n:β},Zf e L=some (i,n)->L[i]?=some (e,n)
 | [],i,n,h=>by simp[Zf]at h
 | (k,m)::r,i,n,h=>by
   simp only[Zf]at h;by_cases hk:e=k
   ·simp[hk]at h;obtain⟨rfl,rfl⟩:=h;simp[hk]
   ·simp only[hk,if_false,qa,Prod.mk.injEq]at h;obtain⟨⟨j,n1⟩,hj,rfl,rfl⟩:=h;simpa using Y7 hj
theorem Xj:∀{L:List (K × β)} {i:Nat} {e:K} {n:β},(L.map Prod.fst).Nodup->L[i]?=some (e,n)->Zf e L=some (i,n)
 | [],i,e,n,_,h=>by simp at h
 | (k,m)::r,0,e,n,_,h=>by simp at h;obtain⟨rfl,rfl⟩:=h;simp[Zf]
 | (k,m)::r,i+1,e,n,hn,h=>by
   simp only[List.map_cons,List.nodup_cons]at hn;simp only[List.getElem?_cons_succ]at h;have hk:¬ e=k:=by
    rintro rfl;exact hn.1 (qo.2 ⟨(e,n),qb h,rfl⟩)
   simp[Zf,hk,Xj hn.2 h]
theorem I4 {e e':K} {n:β}:∀{L:List (K × β)},Zf e L=none->Zf e' (L++[(e,n)])=if e'=e then some (L.length,n) else Zf e' L
 | [],_=>by simp[Zf]
 | (k,m)::r,h=>by
   simp only[Zf]at h;by_cases hk:e=k
   ·simp[hk]at h
   ·simp only[hk,if_false,Option.map_eq_none_iff]at h;by_cases he:e'=e
    ·subst he;simp[Zf,hk,I4 h]
    ·simp only[List.cons_append,Zf,I4 h,he,if_false]
theorem Q2n {e e':K} {n':β}:∀{L:List (K × β)} {i:Nat} {n:β},Zf e L=some (i,n)->Zf e' (L.set i (e,n'))=if e'=e then some (i,n') else Zf e' L
 | [],i,n,h=>by simp[Zf]at h
 | (k,m)::r,i,n,h=>by
   simp only[Zf]at h;by_cases hk:e=k
   ·simp[hk]at h;obtain⟨rfl,rfl⟩:=h
    subst hk;by_cases he:e'=e<;>simp[Zf,he]
   ·simp only[hk,if_false,qa,Prod.mk.injEq]at h;obtain⟨⟨j,n1⟩,hj,rfl,rfl⟩:=h;have:=Q2n (e':=e') (n':=n') hj;by_cases he:e'=e
    ·subst he;simp[Zf,hk,this]
    ·simp only[List.set_cons_succ,Zf,this,he,if_false]
def Qjd (e:K) (n:β) (L:List (K × β)):List (K × β):=match Zf e L with | some (i,_)=>L.set i (e,n) | none=>L++[(e,n)]
theorem Qyd (e e':K) (n:β) (L:List (K × β)):(Zf e' (Qjd e n L)).map Prod.snd=if e'=e then some n else (Zf e' L).map Prod.snd:=by
 unfold Qjd;cases h:Zf e L with
 | none=>simp only[I4 h];split<;>simp
 | some p=>obtain⟨i,m⟩:=p;simp only[Q2n h];split<;>simp
theorem Qr7 (e:K) (n:β) (L:List (K × β)):(Qjd e n L).map Prod.fst=if e∈L.map Prod.fst then L.map Prod.fst else L.map Prod.fst++[e]:=by
 unfold Qjd;cases h:Zf e L with
 | none=>rw[if_neg (fndG_none.1 h)];simp
 | some p =>
   obtain⟨i,m⟩:=p;have h1:=Y7 h;rw[if_pos (qo.2 ⟨(e,m),qb h1,rfl⟩)];simp only[List.map_set];apply qy;intro j;by_cases hj:i=j
   ·subst hj;have:=(q8.1 h1).1;rw[qm (by simpa using this)];simp[h1]
   ·rw[qt hj]
end
theorem Ez:KeyOk [1,1] P2.enc:=⟨λ_=>rfl,λ_=>rfl,veq2⟩
def kt {K:Type} (en:K->V) (v:K):V × V:=(en v,.b true)
theorem Q1d (t:V3) (n:Nat):(∀y∈t.cs,y.cl n=true)=True:=by simp[V3.cs,V.cl,V.cl1,V.cl0]
theorem Ky (t:T3) (n:Nat):(∀y∈t.cs,y.cl n=true)=True:=by simp[T3.cs,V.cl,V.cl1,V.cl0]
theorem Qnd {m:Mesh}:m.edgesL.length<=12288:=by
 by_cases hz:m.check=0
 ·have hn:m.edgesL.Nodup:=by
   unfold Mesh.edgesL;rw[if_pos hz];exact(Jc _).imp λh1 h2=>by subst h2;exact P2.lt_irrefl _ h1
  have h1:=Q0s (k:=(Q7 m.tris).map P2.und) hn (λa ha=>by unfold Mesh.edgesL at ha;rw[if_pos hz]at ha;exact mem_ascOf.1 ha);have hE:=Yw m.tris m.tris.length;rw[qi]at hE
  rw[List.length_map]at h1
  have:=(Mesh.check_zero.1 hz).2.1;omega
 ·simp[Mesh.edgesL,hz]
def adjT (s t:T3):Prop:=∃a∈Q4 s,∃b∈Q4 t,a.und=b.und
def adjI (ts:List T3) (i j:Nat):Prop:=∃s t,ts[i]?=some s/\ts[j]?=some t/\adjT s t
theorem adjI.symm {ts:List T3} {i j:Nat} (h:adjI ts i j):adjI ts j i:=by
 obtain⟨s,t,h1,h2,a,ha,b,hb,h3⟩:=h;exact⟨t,s,h2,h1,b,hb,a,ha,h3.symm⟩
inductive Conn (ts:List T3):Nat->Nat->Prop where
 | refl {i:Nat}:i<ts.length->Conn ts i i
 | tail {i j k:Nat}:Conn ts i j->adjI ts j k->Conn ts i k
theorem adjI.lt {ts:List T3} {i j:Nat} (h:adjI ts i j):i<ts.length/\j<ts.length:=by
 obtain⟨s,t,h1,h2,_⟩:=h;exact⟨(q8.1 h1).1,(q8.1 h2).1⟩
theorem Conn.lt {ts:List T3} {i j:Nat} (h:Conn ts i j):i<ts.length/\j<ts.length:=by
 induction h with
 | refl h=>exact⟨h,h⟩
 | tail _ h2 ih=>exact⟨ih.1,h2.lt.2⟩
theorem Conn.head {ts:List T3} {i j k:Nat} (h:adjI ts i j) (h2:Conn ts j k):Conn ts i k:=by
 induction h2 with
 | refl _=>exact .tail (.refl h.lt.1) h
 | tail _ h3 ih=>exact .tail ih h3
theorem Conn.symm {ts:List T3} {i j:Nat} (h:Conn ts i j):Conn ts j i:=by
 induction h with
 | refl h=>exact .refl h
 | tail _ h2 ih=>exact .head h2.symm ih
theorem Conn.trans {ts:List T3} {i j k:Nat} (h:Conn ts i j) (h2:Conn ts j k):Conn ts i k:=by
 induction h2 with
 | refl _=>exact h
 | tail _ h3 ih=>exact .tail ih h3
structure IsLab (ts:List T3) (L:List Int):Prop where
 len:L.length=ts.length
 con:∀(i:Nat) (v:Int),L[i]?=some v->0<=v/\v<=i/\Conn ts i v.toNat
 adj:∀i j,adjI ts i j->L[i]?=L[j]?
theorem IsLab.conn {ts:List T3} {L:List Int} (h:IsLab ts L) {i j:Nat} (hc:Conn ts i j):L[i]?=L[j]?:=by
 induction hc with
 | refl _=>rfl
 | tail _ h2 ih=>rw[ih];exact h.adj _ _ h2
theorem IsLab.le {ts:List T3} {L K:List Int} (h:IsLab ts L) (k:IsLab ts K) {i:Nat} {v u:Int} (h1:L[i]?=some v) (h2:K[i]?=some u):u<=v:=by
 obtain⟨a1,a2,a3⟩:=h.con i v h1;have h3:=k.conn a3;rw[h2]at h3
 have:=(k.con v.toNat u h3.symm).2.1;omega
theorem IsLab.eq {ts:List T3} {L K:List Int} (h:IsLab ts L) (k:IsLab ts K):L=K:=by
 apply qy;intro i;by_cases hi:i<ts.length
 ·have h1:L[i]?=some (L[i]'(by rw[h.len];exact hi)):=q9 _;have h2:K[i]?=some (K[i]'(by rw[k.len];exact hi)):=q9 _;have a:=h.le k h1 h2;have b:=k.le h h2 h1;rw[h1,h2];congr 1;omega
 ·rw[qk (by rw[h.len];omega),qk (by rw[k.len];omega)]
open Classical in
noncomputable def Qp6 (ts:List T3):List Int:=if h:∃L,IsLab ts L then Classical.choose h else []
theorem Ey {ts:List T3} {L:List Int} (h:IsLab ts L):Qp6 ts=L:=by
 unfold Qp6;rw[dif_pos ⟨L,h⟩];exact(Classical.choose_spec (⟨L,h⟩:∃L,IsLab ts L)).eq h
def shK (L:List Int) (i k:Nat):List Int:=((List.range k).filter λj=>decide (L[j]?=some (i:Int))).map λ(j:Nat)=>(j:Int)
def Yf (L:List Int) (k:Nat):List (List Int):=((List.range k).filter λ(i:Nat)=>decide (L[i]?=some (i:Int))).map λi=>shK L i L.length
noncomputable def Mesh.shells (m:Mesh):List (List Int):=if m.check=0 then Yf (Qp6 m.tris) (Qp6 m.tris).length else []
def B8 (P:Program) (f:FuncId):Prop:=∀m:Mesh,CallIs P f [m.enc] (lsV m.shells)
theorem Qv5 (L:List Int) (i k:Nat):shK L i (k+1)=shK L i k++if L[k]?=some (i:Int) then [(k:Int)] else []:=by
 unfold shK;rw[List.range_succ,List.filter_append,qx];by_cases h:L[k]?=some (i:Int)<;>simp[h]
theorem Q3a (L:List Int) (k:Nat):Yf L (k+1)=Yf L k++if L[k]?=some (k:Int) then [shK L k L.length] else []:=by
 unfold Yf;rw[List.range_succ,List.filter_append,qx];by_cases h:L[k]?=some (k:Int)<;>simp[h]
theorem shK_low {ts:List T3} {L:List Int} (h:IsLab ts L) (i:Nat):shK L i i=[]:=by
 unfold shK;rw[List.map_eq_nil_iff,List.filter_eq_nil_iff];intro j hj;have hj:=qz.1 hj;simp only[decide_eq_true_eq];intro hh;have:=(h.con j i hh).2.1;omega
structure PreLab (ts:List T3) (L:List Int):Prop where
 len:L.length=ts.length
 con:∀(i:Nat) (v:Int),L[i]?=some v->0<=v/\v<=i/\Conn ts i v.toNat
def near (ts:List T3) (i j:Nat):Prop:=j=i∨adjI ts i j
structure Spread (ts:List T3) (L K:List Int):Prop where
 len:K.length=ts.length
 att:∀(i:Nat) (v:Int),K[i]?=some v->∃j,near ts i j/\L[j]?=some v
 low:∀(i j:Nat) (v u:Int),K[i]?=some v->near ts i j->L[j]?=some u->v<=u
theorem PreLab.spread {ts:List T3} {L K:List Int} (h:PreLab ts L) (s:Spread ts L K):PreLab ts K where
 len:=s.len
 con i v hv:=by
  obtain⟨j,hj,hjv⟩:=s.att i v hv;obtain⟨c1,c2,c3⟩:=h.con j v hjv;have hi:i<L.length:=by rw[h.len,<- s.len];exact(q8.1 hv).1
  have hle:=s.low i i v L[i] hv (.inl rfl) (q9 hi);have hci:=(h.con i L[i] (q9 hi)).2.1;refine⟨c1,by omega,?_⟩;rcases hj with rfl | hj
  ·exact c3
  ·exact .head hj c3
theorem Spread.fix {ts:List T3} {L:List Int} (h:PreLab ts L) (s:Spread ts L L):IsLab ts L where
 len:=h.len
 con:=h.con
 adj i j hij:=by
  have h1:L[i]?=some (L[i]'(by rw[h.len];exact hij.lt.1)):=q9 _;have h2:L[j]?=some (L[j]'(by rw[h.len];exact hij.lt.2)):=q9 _;have a:=s.low i j _ _ h1 (.inr hij) h2;have b:=s.low j i _ _ h2 (.inr hij.symm) h1;rw[h1,h2];congr 1;omega
def Q5s (L:List Int):Nat:=(L.map Int.toNat).sum
theorem Qon:∀{L K:List Int},K.length=L.length->(∀(i:Nat) (v u:Int),K[i]?=some v->L[i]?=some u->v<=u/\0<=v)->K≠L->Q5s K<Q5s L
 | [],[],_,_,h=>absurd rfl h
 | [],_::_,h,_,_=>by simp at h
 | _::_,[],h,_,_=>by simp at h
 | l::L,k::K,hl,hle,hne=>by
   have h0:=hle 0 k l rfl rfl;have ht:∀(i:Nat) (v u:Int),K[i]?=some v->L[i]?=some u->v<=u/\0<=v:=λi v u h1 h2=>hle (i+1) v u (by simpa using h1) (by simpa using h2)
   simp only[List.length_cons,Nat.add_right_cancel_iff]at hl;simp only[Q5s,List.map_cons,List.sum_cons];by_cases hkl:K=L
   ·subst hkl;have:k≠l:=λh=>hne (by rw[h])
    omega
   ·have:=Qon hl ht hkl;unfold Q5s at this;omega
theorem Spread.sum {ts:List T3} {L K:List Int} (h:PreLab ts L) (s:Spread ts L K) (hne:K≠L):Q5s K<Q5s L :=
 Qon (by rw[s.len,h.len]) (λi v u h1 h2=>⟨s.low i i v u h1 (.inl rfl) h2,((h.spread s).con i v h1).1⟩) hne
theorem Qvi (ts:List T3):PreLab ts ((List.range ts.length).map λ(j:Nat)=>(j:Int)) where
 len:=by simp
 con i v hv:=by
  rw[qp,qa]at hv
  obtain⟨j,hj,rfl⟩:=hv;obtain⟨h1,h2⟩:=q8.1 hj;simp at h1 h2;subst h2;exact⟨by omega,by omega,by rw[Int.toNat_natCast];exact .refl h1⟩
end Go.Abs
