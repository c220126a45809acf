/- Part of the library on which the proof stands: an abstract machine, its values and its soundness against the model; or what functions of the program do to such values. -/
import Derived.Test.YtnaehggpjfdenaaGreatGoRsM
import Derived.Test.YtnaehggpjfdenaaGreatGoSkD
import Derived.Test.YtnaehggpjfdenaaGreatGoHeap
import Derived.Test.YtnaehggpjfdenaaGreatGoUnK
import Derived.Test.YtnaehggpjfdenaaGreatGoEu
import Derived.Test.YtnaehggpjfdenaaGreatGoCsA
set_option linter.unusedVariables false
set_option linter.unusedSimpArgs false
set_option maxHeartbeats 16000000
set_option maxRecDepth 20000
namespace Go.Abs
section
variable {P:Program} (hm:P.follows .mixedOrders=true)
include hm
theorem Q61 {f fc ff fm fi fo:FuncId} (hf:Q5 P f (L2l.c fc ff fm fi fo) L2l.r L2l.n) (hc:Bd P fc) (hfar:FarC P ff) (hce:Qie P fm) (hins:Qi5 P fi) (ho:OfC P fo):Ba P f:=by
 intro ps k hps;have hcc:=hc ps k hps;cases hev:Z1 k 32 1024 with
 | false =>
   rw[hev]at hcc
   have hR:Xr ps k=([],1):=by unfold Xr;rw[if_pos hev]
   rw[hR];refine CallIs.res (r:=.t [.a [.nil],.i .i64 1]) ?_ (.inr ⟨_,_,rfl,rfl,.inr ⟨_,_,rfl,rfl,Le0.nil 2,trivial⟩,Le1.refl _,trivial⟩);refine PI hm hf ?_;unfold L2l.c;simp[go_sem,Qd];refine Q2 hcc ?_;simp[go_sem,L2l.r]
   done
 | true =>
   rw[hev]at hcc
   have hk:PitchOk k:=by
    unfold Z1 at hev;simp only[Bool.and_eq_true,decide_eq_true_eq]at hev;exact⟨hev.1.1,hev.1.2,hev.2⟩
   have hR:Xr ps k=(Ul (ps.flatMap Qu) k,0):=by unfold Xr;rw[if_neg (by rw[hev];simp)]
   rw[hR];have k1:=hk.lo;have hfc:=hfar ps k hps hk;have hn:U7 k 0 ps<=2048:=Qhh k1 ps 0 (by omega) λq hq v hv=>hps.mx hq hv
   have hG:=Qn0 (Qr5 ps) hk hn (farN_eg (by omega));generalize U7 k 0 ps=n at *
   obtain⟨q,hq⟩:∃q:P2->Bool,q=λp=>decide (0<wnd (ps.flatMap Qu) (ctr k p.y p.x)):=⟨_,rfl⟩
   rw[<- hq]at hG
   rw[<- hG];obtain⟨T,hT⟩:∃T:Nat->List P2,∀i,T i=K5 q (n+1) (2*n+3) i:=⟨_,λ_=>rfl⟩
   have hTb:∀i,i<=2*n+3->(T i).length<=20000000:=λi hi=>by
    have h1:=Qax q (n+1) (2*n+3) i;have h2:i*(2*n+3)<=4099*4099:=Nat.mul_le_mul (by omega) (by omega);rw[hT];omega
   have hT0:T 0=[]:=by rw[hT];rfl
   have hoc:=ho (T (2*n+3)) (by have:=hTb (2*n+3) (Nat.le_refl _);omega)
    (λp hp=>by rw[hT,Qaj]at hp;unfold Qz9;omega) (by rw[hT];exact Qay _ _ _ _)
   rw[<- hT];refine PI hm hf ?_;unfold L2l.c;simp[go_sem,Qd];refine Q2 hcc ?_;simp[go_sem,Qd];refine Q2 hfc ?_;simp (disch:=omega) [go_sem,Q0];refine Qi [.t 8 2] (α:=Nat) (λi=>i<=2*n+3)
    (λi=>⟨[(0,Qd ps),(1,.i .i64 k),(4,.p 0 1 0 0),(7,.i .i64 ((n:Int)+1)),(8,.own 1 ((T i).length+1) 0 (T i).length),(9,.i .i64 (-((n:Int)+1)+i))],[.arr 1 1 [[.nil]],.arr ((T i).length+1) 2 ((T i).map P2.cs)]⟩)
    (λi=>2*n+3-i) 0 (Nat.zero_le _) ?_ ?_
   ·simp[go_sem,hT0,Qd]
   intro i hi;by_cases hil:i=2*n+3
   ·subst hil;have ht:List.take (T (2*n+3)).length ((T (2*n+3)).map P2.cs)=(T (2*n+3)).map P2.cs:=qe (by simp);generalize T (2*n+3)=L at *
    have hd:∀p∈L,∀y∈p.cs,y.isD=true:=λp _ y hy=>by
     simp[P2.cs]at hy
     rcases hy with rfl | rfl<;>rfl
    have hle:¬ ((-((n:Int)+1)+(2*(n:Int)+3))<=(n:Int)+1):=by omega
    have hle2:¬ ((-1+-(n:Int)+(2*(n:Int)+3))<=(n:Int)+1):=by omega
    simp (disch:=omega) [go_sem,Q0,hle,hle2];refine Y8 (vs:=[psV L]) (by simp[Zh,frz,Ys,psV,ht];rw[if_pos hd];rfl) hoc ?_;simp[go_sem,rgV,V.cells,V.okA,L2l.r,V.ids2,Q03]
   have hTs:T (i+1)=T i++Wx q (n+1) (-((n:Int)+1)+i) (2*n+3):=by rw[hT,Q5h,<- hT]
   have hTl:=hTb i hi;obtain⟨y,hy⟩:∃y:Int,y=-((n:Int)+1)+i:=⟨_,rfl⟩
   rw[<- hy]at hTs
   have hyb:-4096<=y/\y<4096:=by omega
   rw[<- hy];have hyn:y<=(n:Int)+1:=by omega
   obtain⟨S,hS⟩:∃S:Nat->List P2,∀j,S j=T i++Wx q (n+1) y j:=⟨_,λ_=>rfl⟩
   have hS0:S 0=T i:=by rw[hS];simp[Wx]
   have hSn:S (2*n+3)=T (i+1):=by rw[hS,hTs]
   have hSl:∀j,j<=2*n+3->(S j).length<=30000000:=λj hj=>by
    rw[hS,j7];have:=Qdx q (n+1) y j;omega
   simp (disch:=omega) [go_sem,Q0,hyn];refine Q8 (α:=Nat) (λj=>j<=2*n+3)
    (λj=>⟨[(0,Qd ps),(1,.i .i64 k),(4,.p 0 1 0 0),(7,.i .i64 ((n:Int)+1)),(8,.own 1 ((S j).length+1) 0 (S j).length),(9,.i .i64 y),(10,.i .i64 (-((n:Int)+1)+j))],[.arr 1 1 [[.nil]],.arr ((S j).length+1) 2 ((S j).map P2.cs)]⟩)
    (λj=>2*n+3-j) 0 (Nat.zero_le _) ?_ ?_
   ·simp[go_sem,hS0,Qd];exact λa _=>of_eq_true (Yb a _)
   intro j hj;by_cases hjl:j=2*n+3
   ·subst hjl;rw[hSn];have hle:¬ ((-((n:Int)+1)+(2*(n:Int)+3))<=(n:Int)+1):=by omega
    simp (disch:=omega) [go_sem,Q0,hle];exact⟨i+1,by omega,by omega,⟨.inr rfl,rfl,by omega⟩,⟨rfl,rfl⟩,λa _=>of_eq_true (Yb a _)⟩
   obtain⟨x,hx⟩:∃x:Int,x=-((n:Int)+1)+j:=⟨_,rfl⟩
   rw[<- hx];have hSs:S (j+1)=S j++(if q ⟨x,y⟩ then [⟨x,y⟩] else []):=by rw[hS,hS,Qm2,<- hx,j6]
   have hSj:=hSl j hj;have hcc2:=hce x y k (by omega) (by omega) hyb.1 hyb.2 hk;have hcv:=Qsr (k:=k) (y:=y) (x:=x) hk (by omega) (by omega) hyb.1 hyb.2;have hic:=hins ps _ hps hcv;have hqe:q ⟨x,y⟩=decide (0<wnd (ps.flatMap Qu) (ctr k y x)):=by rw[hq]
   rw[<- hqe]at hic
   simp only[P2.enc,P2.cs]at hcc2;have hxn:x<=(n:Int)+1:=by omega
   have ht:List.take (S j).length ((S j).map P2.cs)=(S j).map P2.cs:=qe (by simp);simp (disch:=omega) [go_sem,Q0,hxn];refine Q2 hcc2 ?_;simp (disch:=omega) [go_sem,Q0];refine Q2 hic ?_;cases hqq:q ⟨x,y⟩ with
   | true =>
     rw[hqq,if_pos rfl]at hSs
     simp (disch:=omega) [go_sem,ht,Q0];exact⟨⟨by omega,by omega⟩,j+1,by omega,by omega,⟨.inr rfl,by rw[hSs];simp,by omega⟩,⟨by rw[hSs];simp,by rw[hSs];simp[P2.cs]⟩,λa _=>of_eq_true (Yb a _)⟩
   | false =>
     rw[hqq,if_neg (by simp),List.append_nil]at hSs
     simp (disch:=omega) [go_sem,Q0];exact⟨j+1,by omega,by omega,⟨.inr rfl,by rw[hSs],by omega⟩,⟨by rw[hSs],by rw[hSs]⟩,λa _=>of_eq_true (Yb a _)⟩
end
def bdO (l:List Rn) (i:Nat):O:=.arr 1 2 [[Q9 l,.i .i64 i]]
def Qpz (P:Program) (f:FuncId):Prop:=∀(h:List O) (id:Nat) (l:List Rn) (i:Nat),l.length<=8192->i<=2*l.length->h[id]?=some (bdO l i)->ACall P f [.p id 1 0 0] h (λr h'=>r=.b (decide (i=2*l.length))/\h'=h)
def OddC (P:Program) (f:FuncId):Prop:=∀(h:List O) (id:Nat) (l:List Rn) (i:Nat),l.length<=8192->i<=2*l.length->h[id]?=some (bdO l i)->ACall P f [.p id 1 0 0] h (λr h'=>r=.b (decide (i % 2=1))/\h'=h)
def NxbC (P:Program) (f:FuncId):Prop:=∀(h:List O) (id:Nat) (l:List Rn) (i:Nat),l.length<=8192->i<=2*l.length->h[id]?=some (bdO l i)->ACall P f [.p id 1 0 0] h (λr h'=>r=.i .i64 (Y9 l i)/\h'=h)
def Z0j (P:Program) (f:FuncId):Prop:=∀(h:List O) (id:Nat) (l:List Rn) (i:Nat) (x:Int),l.length<=8192->i<=2*l.length->h[id]?=some (bdO l i)->ACall P f [.p id 1 0 0,.i .i64 x] h (λr h'=>r=.t []/\h'=h.set id (bdO l (swN l i x)))
def B9 (P:Program) (f:FuncId):Prop:=∀l:List Rn,RnsV l->RnI l->CallIs P f [Q9 l] (.b true)
def OrBC (P:Program) (f:FuncId):Prop:=Qx P f=true/\∀a b:Bool,CallIs P f [.b a,.b b] (.b (a || b))
def Qnv (P:Program) (f:FuncId):Prop:=∀(g:FuncId),OrBC P g->∀a b U:List Rn,RnsV a->RnsV b->RnI a->RnI b->RnsV U->(∀x,Qb U x↔Qb a x∨Qb b x)->CallIs P f [Q9 a,Q9 b,.f g []] (Q9 U)
def Q83 (P:Program) (f:FuncId):Prop:=∀a b U:List Rn,RnsV a->RnsV b->RnI a->RnI b->RnsV U->(∀x,Qb U x↔Qb a x∨Qb b x)->CallIs P f [Q9 a,Q9 b] (Q9 U)
section
variable {P:Program} (hm:P.follows .mixedOrders=true)
include hm
theorem Q5v {f:FuncId} (hf:Q5 P f L37.c L37.r L37.n) (hcb:Qx P f=true):OrBC P f:=by
 refine⟨hcb,λa b=>?_⟩;refine PI hm hf ?_;unfold L37.c;cases a<;>cases b<;>simp[go_sem,L37.r]
theorem Qc2 {f ff:FuncId} (hf:Q5 P f (L38.c ff) L38.r L38.n) (hff:Qi7 P ff):B9 P f:=by
 intro l hl hb;have hll:=hl.len hb;refine PI hm hf ?_;unfold L38.c;simp[go_sem,Q9];refine Q8 (α:=Nat) (λi=>i<=l.length)
  (λi=>⟨[(0,Q9 l),(5,Q9 l),(6,.i .i64 l.length),(7,.i .i64 i)],[]⟩)
  (λi=>l.length-i) 0 (Nat.zero_le _) ?_ ?_
 ·simp[go_sem,Q9]
 intro i hi;by_cases hil:i=l.length
 ·subst hil;simp[go_sem,Q9,L38.r]
 have hlt:i<l.length:=by omega
 have hq:l[i]?=some l[i]:=q9 hlt;have h1:=hl.1 _ (qb hq);have h2:=hb _ (qb hq);have hprev:∀j,i=j+1->∃s,l[j]?=some s/\s.b<(l[i]).a:=λj hj=>by
  subst hj;exact⟨l[j],q9 (by omega),j8.1 hl.2 j (j+1) (by omega) hlt (by omega)⟩
 generalize l[i]=r at *
 obtain⟨_,hq'⟩:=q8.1 hq;have hcall:=hff r (by omega);simp only[Rn.cs]at hcall;by_cases hi0:i=0
 ·subst hi0;simp (disch:=omega) [go_sem,Q9,hlt,hq,hq',Rn.cs,show ¬ r.b<=r.a by omega,Q0];refine Qa hcall ?_;simp (disch:=omega) [go_sem,Q9,hlt,hq,hq',Rn.cs,show ¬ r.b<=r.a by omega,Q0];exact⟨1,by omega,by omega,by omega⟩
 ·obtain⟨j,rfl⟩:∃j,i=j+1:=⟨i-1,by omega⟩
  obtain⟨s,hs,hsr⟩:=hprev j rfl;obtain⟨hjl,hs'⟩:=q8.1 hs;have hlz:(j:Int)+1<(l.length:Int):=by omega
  simp (disch:=omega) [go_sem,Q9,hlt,hlz,hjl,hq,hq',hs,hs',Rn.cs,show ¬ r.b<=r.a by omega,show ¬ r.a<=s.b by omega,Q0];refine⟨by omega,Qa hcall ?_⟩;simp (disch:=omega) [go_sem,Q9,hlt,hlz,hjl,hq,hq',hs,hs',Rn.cs,show ¬ r.b<=r.a by omega,show ¬ r.a<=s.b by omega,Q0];exact⟨j+2,by omega,by omega,by omega⟩
theorem Qfm {f:FuncId} (hf:Q5 P f L3b.c L3b.r L3b.n):Qpz P f:=by
 intro h id l i hl hi hid;refine B4 hm hf (qh rfl) ?_;unfold L3b.c;have hb:(((i:Nat):Int) == 2*(l.length:Int))=decide (i=2*l.length):=by
  by_cases h1:i=2*l.length
  ·simp[h1]
  ·simp[h1];omega
 simp (disch:=omega) [go_sem,hid,bdO,Q9,Q0,hb,L3b.r]
theorem Q8x {f:FuncId} (hf:Q5 P f L39.c L39.r L39.n):OddC P f:=by
 intro h id l i hl hi hid;refine B4 hm hf (qh rfl) ?_;unfold L39.c;have ht:((i:Nat):Int).tmod 2=((i % 2:Nat):Int):=by rw[jt (by omega)];simp
 have w:=Q0 (z:=((i % 2:Nat):Int)) (by omega) (by omega);have hb:((((i % 2:Nat):Int)) == 1)=decide (i % 2=1):=by
  by_cases h1:i % 2=1
  ·simp[h1]
  ·simp[h1];omega
 have hb2:((i:Int) % 2 == 1)=decide (i % 2=1):=by rw[<- hb];simp
 simp (disch:=omega) [go_sem,hid,bdO,Q9,ht,w,hb2,L39.r]
theorem Qfn {f fo fi:FuncId} (hf:Q5 P f (L3a.c fo fi) L3a.r L3a.n) (ho:Qpz P fo) (hin:OddC P fi):NxbC P f:=by
 intro h id l i hl hi hid;refine B4 hm hf (qh rfl) ?_;unfold L3a.c;have hoc:=ho h id l i hl hi hid;have hic:=hin h id l i hl hi hid;simp[go_sem];refine Qt hoc ?_;by_cases h1:i=2*l.length
 ·have e:Y9 l i=1048577:=by rw[h1];exact B5 l
  rw[e];simp[go_sem,h1,L3a.r]
 ·simp[go_sem,h1];refine Qt hic ?_;have hd:i / 2<l.length:=by omega
  have hq:((i:Nat):Int).tdiv 2=((i / 2:Nat):Int):=by rw[Int.tdiv_eq_ediv_of_nonneg (by omega)];simp
  have w:=Q0 (z:=((i / 2:Nat):Int)) (by omega) (by omega);have hr:l[i / 2]?=some l[i / 2]:=q9 hd;have e:Y9 l i=if i % 2=1 then (l[i / 2]).b else (l[i / 2]).a:=by unfold Y9;rw[hr];rfl
  rw[e];generalize l[i / 2]=r at *
  obtain⟨_,hr'⟩:=q8.1 hr;generalize i / 2=k at *
  by_cases h2:i % 2=1
  ·simp (disch:=omega) [go_sem,h2,hid,bdO,Q9,hq,w,hd,hr,hr',Rn.cs,Q0,L3a.r]
  ·simp (disch:=omega) [go_sem,h2,hid,bdO,Q9,hq,w,hd,hr,hr',Rn.cs,Q0,L3a.r]
theorem Qfl {f fn:FuncId} (hf:Q5 P f (L3c.c fn) L3c.r L3c.n) (hn:NxbC P fn):Z0j P f:=by
 intro h id l i x hl hi hid;refine B4 hm hf (qh rfl) ?_;unfold L3c.c;have hnc:=hn h id l i hl hi hid;obtain⟨hlt,hid'⟩:=q8.1 hid;simp[go_sem];refine Qt hnc ?_;unfold swN;by_cases h1:Y9 l i=x
 ·rw[if_pos h1];simp (disch:=omega) [go_sem,h1,hid,hid',hlt,bdO,Q9,Q0,L3c.r]
 ·rw[if_neg h1];have hb:(Y9 l i == x)=false:=by simpa using h1
  have hse:h.set id (bdO l i)=h:=Zb hid;rw[hse];simp (disch:=omega) [go_sem,h1,hb,L3c.r]
theorem Qc1 {f fv fo fn fp fi:FuncId} (hf:Q5 P f (L3f.c fv fo fn fp fi) L3f.r L3f.n)
  (hv:B9 P fv) (ho:Qpz P fo) (hn:NxbC P fn) (hp:Z0j P fp) (hin:OddC P fi):Qnv P f:=by
 rintro g ⟨hcb,hg⟩ a b U va vb ia ib hU hUx;have hal:=va.len ia;have hbl:=vb.len ib;refine PI hm hf ?_;unfold L3f.c;simp[go_sem];refine Q2 (hv a va ia) ?_;simp[go_sem];refine Q2 (hv b vb ib) ?_;simp[go_sem,Q9];refine Qi [.t 9 2] (α:=Nat × Nat × Int × List Rn × Nat) (λp=>SwI a b p.1 p.2.1 p.2.2.1 p.2.2.2.1)
  (λp=>⟨[(2,.f g []),(7,.p 0 1 0 0),(8,.p 1 1 0 0),(9,.own 2 (p.2.2.2.2+1) 0 p.2.2.2.1.length),(10,.b (Bt p.1 p.2.1))],[.arr 1 2 [[Q9 a,.i .i64 p.1]],.arr 1 2 [[Q9 b,.i .i64 p.2.1]],.arr (p.2.2.2.2+1) 2 (p.2.2.2.1.map Rn.cs)]⟩)
  (λp=>2*a.length+2*b.length-p.1-p.2.1) (0,0,-5000,[],0) (SwI.start va vb ia ib) ?_ ?_
 ·simp[go_sem,Q9,Bt]
 rintro⟨i,j,X,out,gn⟩ hI;simp only at hI ⊢;have hil:=hI.pa.le;have hjl:=hI.pb.le;have hol:=hI.len;have k1:=ho [.arr 1 2 [[Q9 a,.i .i64 i]],.arr 1 2 [[Q9 b,.i .i64 j]],.arr (gn+1) 2 (out.map Rn.cs)] 0 a i hal hil rfl;have k2:=ho [.arr 1 2 [[Q9 a,.i .i64 i]],.arr 1 2 [[Q9 b,.i .i64 j]],.arr (gn+1) 2 (out.map Rn.cs)] 1 b j hbl hjl rfl;by_cases hend:i=2*a.length/\j=2*b.length
 ·obtain⟨h1,h2⟩:=hend;have hUe:out=U:=by
   rw[h1,h2]at hI
   exact hI.done va vb hU hUx
  subst hUe;simp[go_sem];refine Qt k1 ?_;simp[go_sem,h1];rw[h1]at k2
  refine Qt k2 ?_;simp[go_sem,h2,L3f.r];rw[if_pos (Ep out)];rfl
 have hij:i<2*a.length∨j<2*b.length:=by omega
 obtain⟨x,hx⟩:∃x,x=min (Y9 a i) (Y9 b j):=⟨_,rfl⟩
 have hst:=hI.step va vb ia ib hx hij;obtain⟨i',hi'⟩:∃i',swN a i x=i':=⟨_,rfl⟩
 obtain⟨j',hj'⟩:∃j',swN b j x=j':=⟨_,rfl⟩
 have n1:=hn [.arr 1 2 [[Q9 a,.i .i64 i]],.arr 1 2 [[Q9 b,.i .i64 j]],.arr (gn+1) 2 (out.map Rn.cs)] 0 a i hal hil rfl;have n2:=hn [.arr 1 2 [[Q9 a,.i .i64 i]],.arr 1 2 [[Q9 b,.i .i64 j]],.arr (gn+1) 2 (out.map Rn.cs)] 1 b j hbl hjl rfl;have p1:=hp [.arr 1 2 [[Q9 a,.i .i64 i]],.arr 1 2 [[Q9 b,.i .i64 j]],.arr (gn+1) 2 (out.map Rn.cs)] 0 a i x hal hil rfl
 have p2:=hp [.arr 1 2 [[Q9 a,.i .i64 i']],.arr 1 2 [[Q9 b,.i .i64 j]],.arr (gn+1) 2 (out.map Rn.cs)] 1 b j x hbl hjl rfl;rw[hi']at p1
 rw[hj']at p2
 rw[hi',hj']at hst
 have hil':=hst.pa.le;have hjl':=hst.pb.le;have q1:=hin [.arr 1 2 [[Q9 a,.i .i64 i']],.arr 1 2 [[Q9 b,.i .i64 j']],.arr (gn+1) 2 (out.map Rn.cs)] 0 a i' hal hil' rfl;have q2:=hin [.arr 1 2 [[Q9 a,.i .i64 i']],.arr 1 2 [[Q9 b,.i .i64 j']],.arr (gn+1) 2 (out.map Rn.cs)] 1 b j' hbl hjl' rfl;have hgc:=hg (decide (i' % 2=1)) (decide (j' % 2=1))
 rw[show (decide (i' % 2=1) || decide (j' % 2=1))=Bt i' j' from rfl]at hgc
 have hmeas:i+j+1<=i'+j':=by
  have h3:Y9 a i=x∨Y9 b j=x:=by omega
  rw[<- hi',<- hj'];unfold swN;rcases h3 with h3 | h3
  ·rw[if_pos h3];split<;>omega
  ·rw[if_pos h3];split<;>omega
 have hop:=hI.op;generalize Y9 a i=ba at *
 generalize Y9 b j=bb at *
 have hmn:(if bb<ba then bb else ba)=x:=by rw[hx];split<;>omega
 have hmn2:(if ba<=bb then ba else bb)=x:=by rw[hx];split<;>omega
 rcases (show i≠2*a.length∨(i=2*a.length/\j≠2*b.length) by omega) with h1 | ⟨h1,h2⟩
 case' inl =>
  rw[decide_eq_false h1]at k1
  simp[go_sem];refine Qt k1 ?_;simp[go_sem]
 case' inr =>
  rw[decide_eq_true h1]at k1
  rw[decide_eq_false h2]at k2
  simp[go_sem];refine Qt k1 ?_;simp[go_sem];refine Qt k2 ?_;simp[go_sem]
 all_goals
  refine Qt n1 ?_;simp[go_sem];refine Qt n2 ?_;simp[go_sem,<- hx,hmn,hmn2];refine Qt p1 ?_;simp[go_sem,bdO];refine Qt p2 ?_;simp[go_sem,bdO];refine Qt q1 ?_;simp[go_sem];refine Qt q2 ?_;simp[go_sem];refine⟨hcb,Q2 hgc ?_⟩;obtain⟨was,hwas⟩:∃w,Bt i j=w:=⟨_,rfl⟩
  obtain⟨now,hnow⟩:∃w,Bt i' j'=w:=⟨_,rfl⟩
  rw[hwas,hnow]at hst
  rw[hwas]at hop
  have htk:List.take out.length (out.map Rn.cs)=out.map Rn.cs:=qe (by simp);cases was<;>cases now
  ·simp (disch:=omega) [go_sem,hwas,hnow,Q0];exact⟨i',j',x,out,hst,by omega,gn,⟨⟨rfl,rfl⟩,hnow⟩,⟨rfl,rfl⟩,⟨rfl,rfl⟩,⟨rfl,rfl⟩,Q59 _ _⟩
  ·simp (disch:=omega) [go_sem,hwas,hnow,htk,Q0];refine⟨⟨by omega,by omega⟩,i',j',x,out++[⟨x,0⟩],hst,by omega,gn+1,⟨⟨rfl,by simp⟩,hnow⟩,⟨rfl,rfl⟩,⟨rfl,rfl⟩,⟨rfl,by simp[Rn.cs]⟩,Q59 _ _⟩
  ·obtain⟨o,f0,ho1,_⟩:=hop rfl;subst ho1;have hog:∀x:List V,(List.map Rn.cs o++[x])[o.length]?=some x:=λx=>by
    have:=qf (l₁:=List.map Rn.cs o) (l₂:=[x]) (i:=o.length) (by simp);rw[this];simp
   have hos:∀x y:List V,(List.map Rn.cs o++[x]).set o.length y=List.map Rn.cs o++[y]:=λx y=>by
    rw[jq _ _ (by simp)];simp
   have hou:Q01 x true false (o++[⟨f0,0⟩])=o++[⟨f0,x⟩]:=by simp[Q01]
   rw[hou]at hst
   simp at hol;simp (disch:=omega) [go_sem,hwas,hnow,hog,hos,Rn.cs,Q0];exact⟨i',j',x,o++[⟨f0,x⟩],hst,by omega,gn,⟨⟨rfl,by simp⟩,hnow⟩,⟨rfl,rfl⟩,⟨rfl,rfl⟩,rfl,by simp[Rn.cs]⟩
  ·simp (disch:=omega) [go_sem,hwas,hnow,Q0];exact⟨i',j',x,out,hst,by omega,gn,⟨⟨rfl,rfl⟩,hnow⟩,⟨rfl,rfl⟩,⟨rfl,rfl⟩,⟨rfl,rfl⟩,Q59 _ _⟩
theorem Qc3 {f fs fg:FuncId} (hf:Q5 P f (L36.c fs fg) L36.r L36.n) (hs:Qnv P fs) (hg:OrBC P fg):Q83 P f:=by
 intro a b U va vb ia ib hU hUx;have h:=hs fg hg a b U va vb ia ib hU hUx;refine PI hm hf ?_;unfold L36.c;simp[go_sem];refine Q2 h ?_;simp[go_sem,Q9,L36.r]
end
theorem Qih {n:Int} (h1:0<=n) (h2:n<18446744073709551616):IntKind.u64.wrap n=n:=by
 show n % 18446744073709551616=n;omega
def OkCC (P:Program) (f:FuncId):Prop:=∀x:Int,CallIs P f [.i .i64 x] (.b (decide (-4096<=x) && decide (x<4096)))
def Q85 (P:Program) (f:FuncId):Prop:=Qx P f=true/\∀(w:Rw) (y:Int),CallIs P f [.a w.cs,.i .i64 y] (.i .i64 (Q15 w.y y))
structure IdxR (g:List Rw) (y:Int) (n:Nat):Prop where
 le:n<=g.length
 lo:∀(k:Nat) (w:Rw),g[k]?=some w->k<n->w.y<y
 hi:∀(k:Nat) (w:Rw),g[k]?=some w->n<=k->y<=w.y
theorem IdxR.ex:∀{g:List Rw},RgV g->∀y:Int,∃n,IdxR g y n
 | [],_,y=>⟨0,by simp,by simp,by simp⟩
 | w::g,hg,y=>by
   have hg2:RgV g:=⟨λu hu=>hg.rs u (by simp[hu]),λu hu=>hg.ne u (by simp[hu]),(jd.1 hg.asc).2⟩
   have hlt:=(jd.1 hg.asc).1;by_cases h:w.y<y
   ·obtain⟨n,h1,h2,h3⟩:=IdxR.ex hg2 y;refine⟨n+1,by simp;omega,λk v hk hkn=>?_,λk v hk hkn=>?_⟩
    ·cases k with
     | zero=>simp at hk;subst hk;exact h
     | succ k=>exact h2 k v (by simpa using hk) (by omega)
    ·cases k with
     | zero=>omega
     | succ k=>exact h3 k v (by simpa using hk) (by omega)
   ·refine⟨0,by omega,by omega,λk v hk _=>?_⟩;cases k with
    | zero=>simp at hk;subst hk;omega
    | succ k =>
      have:=hlt v (qb (i:=k) (by simpa using hk));omega
def BsC (P:Program) (f:FuncId):Prop:=∀fg,Q85 P fg->∀(g:List Rw) (y:Int) (n:Nat),g.length<=8192->IdxR g y n->CallIs P f [rwL g,.i .i64 y,.f fg []] (.t [.i .i64 n,.b (decide (∃w,g[n]?=some w/\w.y=y))])
def Z0a (P:Program) (f:FuncId):Prop:=∀(g:List Rw) (y:Int),RgV g->RgB g->CallIs P f [rgV g,.i .i64 y] (Q9 (Yg g y))
def Qid (P:Program) (f:FuncId):Prop:=∀l:List Rn,l≠[]->l.length<=8192->CallIs P f [Q9 l] (Q9 l)
theorem IdxR.row {g:List Rw} (hg:RgV g) {y:Int} {n:Nat} (h:IdxR g y n):(∀w,g[n]?=some w->w.y=y->Yg g y=w.rs)/\((¬ ∃w,g[n]?=some w/\w.y=y)->Yg g y=[]):=by
 constructor
 ·intro w hw he;subst he;exact Il hg (qb hw)
 ·intro hn;refine Im λw hw he=>?_
  obtain⟨k,hk⟩:=qq hw;by_cases h1:k<n
  ·have:=h.lo k w hk h1;omega
  ·by_cases h2:k=n
   ·subst h2;exact hn ⟨w,hk,he⟩
   ·have hkl:=(q8.1 hk).1;have hq:g[n]?=some g[n]:=q9 (by omega);have h3:=h.hi n _ hq (Nat.le_refl _);have h4:=j8.1 hg.asc n k (by omega) hkl (by omega);rw[(q8.1 hk).2]at h4
    omega
section
variable {P:Program} (hm:P.follows .mixedOrders=true)
include hm
theorem Qfr {f:FuncId} (hf:Q5 P f L2z.c L2z.r L2z.n):OkCC P f:=by
 intro x;refine PI hm hf ?_;unfold L2z.c;by_cases h1:-4096<=x<;>by_cases h2:x<4096<;>simp[go_sem,h1,h2,L2z.r]
theorem Q5x {f fc:FuncId} (hf:Q5 P f (L31.c fc) L31.r L31.n) (hc:CmpC P fc) (hcb:Qx P f=true):Q85 P f:=by
 refine⟨hcb,λw y=>?_⟩;have h:=hc w.y y;refine PI hm hf ?_;unfold L31.c;simp[go_sem,Rw.cs];refine Q2 h ?_;simp[go_sem,L31.r]
theorem Q38 {f:FuncId} (hf:Q5 P f L3q.c L3q.r L3q.n):Qid P f:=by
 intro l hl hll;refine PI hm hf ?_;unfold L3q.c;obtain⟨r,k,rfl⟩:∃r k,l=r::k:=by
  cases l with
  | nil=>exact absurd rfl hl
  | cons r k=>exact⟨r,k,rfl⟩
 simp only[List.length_cons]at hll;have hd:=Ep (r::k);have ht:List.take (k.length+1) (r.cs::k.map Rn.cs)=r.cs::k.map Rn.cs:=qe (by simp);simp (disch:=omega) [go_sem,Q9,ht,L3q.r];refine⟨⟨by omega,by omega⟩,?_⟩;rw[if_pos ⟨hd r (by simp),λx hx=>hd x (by simp[hx])⟩];rfl
theorem We {f:FuncId} (hf:Q5 P f L3p.c L3p.r L3p.n):BsC P f:=by
 rintro fg ⟨hcb,hcmp⟩ g y n hgl hn;refine PI hm hf ?_;unfold L3p.c;simp[go_sem,rwL];refine Q8 (α:=Nat × Nat) (λp=>p.1<=n/\n<=p.2/\p.2<=g.length)
  (λp=>⟨[(0,rwL g),(1,.i .i64 y),(2,.f fg []),(8,.i .i64 g.length),(9,.i .i64 p.1),(10,.i .i64 p.2)],[]⟩)
  (λp=>p.2-p.1) (0,g.length) ⟨Nat.zero_le _,hn.le,Nat.le_refl _⟩ ?_ ?_
 ·simp[go_sem,rwL]
 rintro⟨i,j⟩ ⟨h1,h2,h3⟩;simp only at h1 h2 h3 ⊢;by_cases hij:i<j
 ·obtain⟨q,hq⟩:∃q,q=(i+j) / 2:=⟨_,rfl⟩
  have hql:q<g.length:=by omega
  have hw:g[q]?=some g[q]:=q9 hql;have w1:=Qih (n:=(i:Int)+j) (by omega) (by omega);have hlo:=hn.lo q _ hw;have hhi:=hn.hi q _ hw;have hcw:=hcmp g[q] y;generalize g[q]=w at *
  obtain⟨_,hw'⟩:=q8.1 hw;have hfd:((i:Int)+j).fdiv 2=(q:Int):=by rw[Int.fdiv_eq_ediv_of_nonneg _ (by omega)];omega
  have w2:=Q0 (z:=(q:Int)) (by omega) (by omega);have hcn:Q15 w.y y<0↔w.y<y:=by have:=cmpI_lt w.y y;simpa using this
  generalize Q15 w.y y=c at *
  simp only[Rw.cs]at hcw;simp (disch:=omega) [go_sem,rwL,hij,w1,w2,hfd,hql,hw,hw',Rw.cs,Q0];refine⟨hcb,Q2 hcw ?_⟩;by_cases hlt:w.y<y
  ·have hqn:q<n:=jb λhh=>by have:=hhi (by omega);omega
   simp (disch:=omega) [go_sem,rwL,hcn,hlt,Q0];exact⟨q+1,j,⟨by omega,by omega,by omega⟩,by omega,by omega,rfl⟩
  ·have hqn:n<=q:=jb λhh=>by have:=hlo (by omega);omega
   simp (disch:=omega) [go_sem,rwL,hcn,hlt,Q0];exact⟨i,q,⟨by omega,by omega,by omega⟩,by omega,rfl,rfl⟩
 ·obtain rfl:i=n:=by omega
  by_cases hil:i<g.length
  ·have hw:g[i]?=some g[i]:=q9 hil;have hcw:=hcmp g[i] y;generalize g[i]=w at *
   obtain⟨_,hw'⟩:=q8.1 hw;have he:(Q15 w.y y == 0)=decide (w.y=y):=by
    have h1:(Q15 w.y y=0)↔w.y=y:=by
     unfold Q15;split
     ·omega
     ·split<;>omega
    by_cases h2:w.y=y
    ·rw[decide_eq_true h2,h1.2 h2];rfl
    ·rw[decide_eq_false h2];simpa using λhh=>h2 (h1.1 hh)
   rw[hw];simp only[Rw.cs]at hcw;simp (disch:=omega) [go_sem,rwL,hij,hil,hw,hw',Rw.cs,Q0];refine⟨hcb,Q2 hcw ?_⟩;simp[go_sem,he,L3p.r]
  ·have hn0:g[i]?=none:=qk (by omega);rw[hn0];simp (disch:=omega) [go_sem,rwL,hij,hil,L3p.r]
theorem Qc4 {f fb fg:FuncId} (hf:Q5 P f (L30.c fb fg) L30.r L30.n) (hb:BsC P fb) (hg:Q85 P fg):Z0a P f:=by
 intro g y hv hbd;obtain⟨n,hn⟩:=IdxR.ex hv y;have hbc:=hb fg hg g y n (hv.len hbd) hn;obtain⟨h1,h2⟩:=hn.row hv;by_cases hex:∃w,g[n]?=some w/\w.y=y
 ·rw[decide_eq_true hex]at hbc
  obtain⟨w,hw,hwy⟩:=hex;rw[h1 w hw hwy];obtain⟨hnl,hw'⟩:=q8.1 hw;refine PI hm hf ?_;unfold L30.c;simp[go_sem,rgV];refine Q2 hbc ?_;simp[go_sem,hnl,hw,hw',Rw.cs,Q9,L30.r]
 ·rw[decide_eq_false hex]at hbc
  rw[h2 hex];refine CallIs.res (r:=.nil) ?_ (.inl (.inl (Le0.nil 2)));refine PI hm hf ?_;unfold L30.c;simp[go_sem,rgV];refine Q2 hbc ?_;simp[go_sem,L30.r]
theorem Q5y {f fo fr:FuncId} (hf:Q5 P f (L2x.c fo fr) L2x.r L2x.n) (ho:OkCC P fo) (hr:B9 P fr):Bb P f:=by
 intro g hg hb;have hll:=hg.len hb;refine PI hm hf ?_;unfold L2x.c;simp[go_sem,rgV];refine Q8 (α:=Nat) (λi=>i<=g.length)
  (λi=>⟨[(1,.p 0 1 0 0),(6,rwL g),(7,.i .i64 g.length),(8,.i .i64 i)],[.arr 1 1 [[rwL g]]]⟩)
  (λi=>g.length-i) 0 (Nat.zero_le _) ?_ ?_
 ·simp[go_sem,rwL]
 intro i hi;by_cases hil:i=g.length
 ·subst hil;simp[go_sem,rwL,L2x.r]
 have hlt:i<g.length:=by omega
 have hq:g[i]?=some g[i]:=q9 hlt;have hy:=hb.yb hg (qb hq);have hrs:=hg.rs _ (qb hq);have hrb:=hb.rnb hg (qb hq);have hne:=hg.ne _ (qb hq);have hvc:=hr _ hrs hrb;have hprev:∀j,i=j+1->∃s,g[j]?=some s/\s.y<(g[i]).y:=λj hj=>by
  subst hj;exact⟨g[j],q9 (by omega),j8.1 hg.asc j (j+1) (by omega) hlt (by omega)⟩
 have ho1:=ho (g[i]).y;rw[show (decide (-4096<=(g[i]).y) && decide ((g[i]).y<4096))=true by simp;omega]at ho1
 generalize g[i]=w at *
 obtain⟨_,hq'⟩:=q8.1 hq;obtain⟨y,rs⟩:=w;simp only at hy hrs hrb hne hvc hprev ho1;obtain⟨r0,hr0⟩:∃r,rs[0]?=some r:=by cases rs with | nil=>exact absurd rfl hne | cons a b=>exact⟨a,rfl⟩
 obtain⟨l,hl⟩:∃l,rs.length=l+1:=⟨rs.length-1,by have:=jl.2 hne;omega⟩
 obtain⟨r1,hr1⟩:∃r,rs[l]?=some r:=⟨rs[l]'(by omega),q9 (by omega)⟩
 have hlb:=hrs.len hrb;have e0:=hrb r0 (qb hr0);have e1:=hrb r1 (qb hr1);have f0:=hrs.1 r0 (qb hr0);have f1:=hrs.1 r1 (qb hr1);obtain⟨_,hr0'⟩:=q8.1 hr0;obtain⟨_,hr1'⟩:=q8.1 hr1;have o0:=ho r0.a;rw[show (decide (-4096<=r0.a) && decide (r0.a<4096))=true by simp;omega]at o0
 have o1:=ho (r1.b-1);rw[show (decide (-4096<=r1.b-1) && decide (r1.b-1<4096))=true by simp;omega]at o1
 have hl0:0<rs.length:=by omega
 have hlf:((rs.length:Int) == 0)=false:=by simp;omega
 have hlf2:((l:Int)+1 == 0)=false:=by simp;omega
 simp only[Q9]at hvc;by_cases hi0:i=0
 case' pos =>
  subst hi0;simp (disch:=omega) [go_sem,rwL,hlt,hq,hq',Rw.cs,Q9,Q0];refine Qa ho1 ?_;simp (disch:=omega) [go_sem,rwL,hlt,hq,hq',Rw.cs,Q9,hl,hlf2,Q0]
 case' neg =>
  obtain⟨j,rfl⟩:∃j,i=j+1:=⟨i-1,by omega⟩
  obtain⟨s,hs,hsr⟩:=hprev j rfl;obtain⟨hjl,hs'⟩:=q8.1 hs;have hlz:(j:Int)+1<(g.length:Int):=by omega
  have hz0:(0:Int)<=(j:Int)+1:=by omega
  simp (disch:=omega) [go_sem,rwL,hlt,hlz,hjl,hz0,hq,hq',hs,hs',Rw.cs,Q9,Q0];refine Qa ho1 ?_;simp (disch:=omega) [go_sem,rwL,hlt,hlz,hjl,hz0,hq,hq',hs,hs',Rw.cs,Q9,hl,hlf2,show ¬ y<=s.y by omega,Q0]
 all_goals
  refine Qa hvc ?_;simp (disch:=omega) [go_sem,Rn.cs,Q9,hl,hlf2,hl0,hr0,hr0',Q0];refine Q2 o0 ?_;simp (disch:=omega) [go_sem,Rn.cs,Q9,hl,hlf2,hl0,hr1,hr1',Q0];refine Q2 o1 ?_;simp (disch:=omega) [go_sem,Q0]
 case' pos=>exact⟨1,by omega,by omega,by omega⟩
 case' neg=>exact⟨j+2,by omega,by omega,by omega⟩
end
def Qod (P:Program) (f:FuncId):Prop:=∀xs:List Int,xs.length<4611686018427387904->xs.Pairwise (λx y=>x<=y)->∃ys zs:List Int,ys.Pairwise (λx y=>x<y)/\(∀x,x∈ys↔x∈xs)/\ys.length<=xs.length/\zs.length=xs.length/\zs.take ys.length=ys /\
 ∀(h:List O) (id gen:Nat),h[id]?=some (.arr gen 1 (xs.map λx=>[.i .i64 x]))->ACall P f [.own id gen 0 xs.length] h (λr h'=>r=.own id gen 0 ys.length/\h'=h.set id (.arr gen 1 (zs.map λx=>[.i .i64 x])))
def Q91 (U:List Rw) (D:List Int):List Rw:=(D.map λy=>Rw.mk y (Yg U y)).filter λw=>decide (w.rs≠[])
theorem Qm1 (U:List Rw) (D:List Int) (y:Int):Q91 U (D++[y])=Q91 U D++(if Yg U y=[] then [] else [⟨y,Yg U y⟩]):=by
 unfold Q91;rw[qx,List.filter_append];congr 1;by_cases h:Yg U y=[]
 ·simp[h]
 ·simp[h]
theorem Qr3 (U:List Rw) (D:List Int):(Q91 U D).length<=D.length:=by
 unfold Q91;refine Nat.le_trans (jc _ _) ?_;simp
theorem Qva {U:List Rw} (hU:RgV U) (hb:RgB U) {D:List Int} (hD:D.Pairwise λx y=>x<y) (hm:∀w∈U,w.y∈D):Q91 U D=U:=by
 refine RgV.ext ⟨λw hw=>?_,λw hw=>?_,?_⟩ hU λy x=>?_
 ·obtain⟨h1,_⟩:=qu.1 hw;obtain⟨y,_,rfl⟩:=qo.1 h1;exact(Eo hU hb y).1
 ·simpa using(qu.1 hw).2
 ·refine List.Pairwise.filter _ ?_;rw[ji];exact hD
 ·constructor
  ·rintro⟨w,hw,rfl,hx⟩;obtain⟨h1,_⟩:=qu.1 hw;obtain⟨y,_,rfl⟩:=qo.1 h1;exact(Kb hU).1 hx
  ·intro h;have h2:=(Kb hU).2 h;obtain⟨w,hw,rfl,_⟩:=h;refine⟨⟨w.y,Yg U w.y⟩,qu.2 ⟨qo.2 ⟨w.y,hm w hw,rfl⟩,?_⟩,rfl,h2⟩;simp only[decide_eq_true_eq];intro h0;rw[h0]at h2
   exact Qj _ h2
theorem Qq1 {a b:List Rw} (ba:RgB a) (bb:RgB b) {w:Rw} (hw:w∈Jj a b):w.y∈a.map Rw.y++b.map Rw.y:=by
 obtain⟨x,hx⟩:=((Eh a b).rs w hw).some ((Eh a b).ne w hw);rcases (Q7w ba bb).1 ⟨w,hw,rfl,hx⟩ with⟨v,hv,he,_⟩ | ⟨v,hv,he,_⟩
 ·exact qg.2 (.inl (qo.2 ⟨v,hv,he⟩))
 ·exact qg.2 (.inr (qo.2 ⟨v,hv,he⟩))
theorem Quc {a b:List Rw} (ha:RgV a) (hb:RgV b) (ba:RgB a) (bb:RgB b) (y x:Int):Qb (Yg (Jj a b) y) x↔Qb (Yg a y) x∨Qb (Yg b y) x:=by
 rw[Kb (Eh a b),Kb ha,Kb hb,Q7w ba bb]
def Qbo (P:Program) (f:FuncId):Prop:=∀fu,Qx P fu=true->Q83 P fu->∀a b:List Rw,RgV a->RgV b->RgB a->RgB b->CallIs P f [rgV a,rgV b,.f fu []] (rgV (Jj a b))
section
variable {P:Program} (hm:P.follows .mixedOrders=true)
include hm
theorem Q1n {f fv fs fk fr fc:FuncId} (hf:Q5 P f (L2y.c fv fs fk fr fc) L2y.r L2y.n) (hv:Bb P fv) (hs:Qhz P fs) (hk:Qod P fk) (hr:Z0a P fr) (hc:Qid P fc):Qbo P f:=by
 intro fu hcb hu a b ha hb ba bb;have hal:=ha.len ba;have hbl:=hb.len bb;have v1:=hv a ha ba;have v2:=hv b hb bb;refine PI hm hf ?_;unfold L2y.c;simp[go_sem,rgV];refine Q2 v1 ?_;simp[go_sem,rgV];refine Q2 v2 ?_;simp[go_sem,rgV];obtain⟨Y,hY⟩:∃Y:Nat->List Int,∀k,Y k=if k=0 then [] else if k=1 then a.map Rw.y else a.map Rw.y++b.map Rw.y:=⟨_,λ_=>rfl⟩
 have hYl:∀k,(Y k).length<=16384:=λk=>by rw[hY];split<;>(try split)<;>simp<;>omega
 refine Qi [.t 7 1] (α:=Nat × Nat) (λp=>p.1<=2)
  (λp=>⟨[(2,.f fu []),(3,.p 0 1 0 0),(4,.p 1 1 0 0),(6,.p 2 1 0 0),(7,.own 3 (p.2+1) 0 (Y p.1).length),(27,.a [rwL a,rwL b]),(28,.i .i64 p.1)],[.arr 1 1 [[rwL a]],.arr 1 1 [[rwL b]],.arr 1 1 [[.nil]],.arr (p.2+1) 1 ((Y p.1).map iel)]⟩)
  (λp=>2-p.1) (0,0) (by simp) ?_ ?_
 ·simp[go_sem,rwL,hY]
 rintro⟨k,gn⟩ hk2;simp only at hk2 ⊢;by_cases hkl:k<2
 ·have key:∃g:List Rw,([rwL a,rwL b]:List V)[k]?=some (rwL g)/\g.length<=8192/\Y (k+1)=Y k++g.map Rw.y:=by
   rcases (show k=0∨k=1 by omega) with rfl | rfl
   ·exact⟨a,rfl,hal,by rw[hY,hY];simp⟩
   ·exact⟨b,rfl,hbl,by rw[hY,hY];simp⟩
  obtain⟨g,hg,hgl,hYs⟩:=key;have hYk:=hYl k;have hkz:(k:Int)<2:=by omega
  have hdr:List.take 1 (List.drop k [V.l 2 (a.map Rw.cs),V.l 2 (b.map Rw.cs)])=[.l 2 (g.map Rw.cs)]:=by
   show List.take 1 (List.drop k [rwL a,rwL b])=[rwL g];rcases (show k=0∨k=1 by omega) with rfl | rfl
   ·simp at hg ⊢;exact hg
   ·simp at hg ⊢;exact hg
  simp (disch:=omega) [go_sem,rwL,hkl,hkz,hg,hdr,show k<=2 by omega,show 1<=2-k by omega,Q0];obtain⟨S,hS⟩:∃S:Nat->List Int,∀j,S j=Y k++(g.take j).map Rw.y:=⟨_,λ_=>rfl⟩
  have hS0:S 0=Y k:=by rw[hS];simp
  have hSn:S g.length=Y (k+1):=by rw[hS,qi,hYs]
  have hSl:∀j,(S j).length<=30000:=λj=>by rw[hS,j7,List.length_map,qv];omega
  refine Q8 (α:=Nat × Nat) (λp=>p.1<=g.length)
   (λp=>⟨[(2,.f fu []),(3,.p 0 1 0 0),(4,.p 1 1 0 0),(6,.p 2 1 0 0),(7,.own 3 (p.2+1) 0 (S p.1).length),(27,.a [rwL a,rwL b]),(28,.i .i64 k),(32,rwL g),(33,.i .i64 g.length),(34,.i .i64 p.1)],[.arr 1 1 [[rwL a]],.arr 1 1 [[rwL b]],.arr 1 1 [[.nil]],.arr (p.2+1) 1 ((S p.1).map iel)]⟩)
   (λp=>g.length-p.1) (0,gn) (by simp) ?_ ?_
  ·simp[go_sem,rwL,hS0];exact Xe _ _
  rintro⟨j,gm⟩ hj;simp only at hj ⊢;by_cases hjl:j=g.length
  ·subst hjl;rw[hSn];simp (disch:=omega) [go_sem,rwL,Q0];exact⟨k+1,by omega,by omega,gm,⟨⟨rfl,rfl⟩,by omega⟩,⟨rfl,rfl⟩,Xe _ _⟩
  have hlt:j<g.length:=by omega
  have hq:g[j]?=some g[j]:=q9 hlt;have hSs:S (j+1)=S j++[(g[j]).y]:=by rw[hS,hS,Q6 hq,qx,j6];rfl
  have hSj:=hSl j;generalize g[j]=w at *
  obtain⟨_,hq'⟩:=q8.1 hq;have ht:List.take (S j).length ((S j).map iel)=(S j).map iel:=qe (by simp);generalize S j=L at *
  simp (disch:=omega) [go_sem,rwL,hlt,hq,hq',Rw.cs,ht,Q0];exact⟨⟨by omega,by omega⟩,j+1,by omega,by omega,gm+1,⟨⟨rfl,by rw[hSs];simp⟩,by omega⟩,⟨rfl,by rw[hSs];simp[iel]⟩,Xe _ _⟩
 ·obtain rfl:k=2:=by omega
  have hY2:Y 2=a.map Rw.y++b.map Rw.y:=by rw[hY];simp
  rw[hY2];generalize hB:a.map Rw.y++b.map Rw.y=B at *
  have hBl:B.length<=16384:=by rw[<- hB];simp;omega
  have hsl:(Zn B).length=B.length:=(Ui B).length_eq;have hso:=hs [.arr 1 1 [[rwL a]],.arr 1 1 [[rwL b]],.arr 1 1 [[.nil]],.arr (gn+1) 1 (B.map iel)] 3 (gn+1) B (by omega) rfl;obtain⟨D,zs,hD,hDm,hDl,hzl,hzt,hka⟩:=hk (Zn B) (by omega) (Qdr B);have hDm2:∀x,x∈D↔x∈B:=λx=>by rw[hDm,(Ui B).mem_iff]
  have hkc:=hka [.arr 1 1 [[rwL a]],.arr 1 1 [[rwL b]],.arr 1 1 [[.nil]],.arr (gn+1) 1 ((Zn B).map iel),.arr 1 1 [[.nil]]] 3 (gn+1) rfl;rw[hsl]at hkc hDl hzl
  generalize Zn B=S at *
  simp (disch:=omega) [go_sem,Q0];refine Qt hso ?_;simp (disch:=omega) [go_sem,Q0];refine Qt hkc ?_;simp (disch:=omega) [go_sem,Q0];have hU:=Qva (Eh a b) (Qli a b) hD λw hw=>by rw[hDm2,<- hB];exact Qq1 ba bb hw
  have hUr:=Quc ha hb ba bb;have hUv:=Eo (Eh a b) (Qli a b);generalize Jj a b=U at *
  obtain⟨T,hT⟩:∃T:Nat->List Rw,∀j,T j=Q91 U (D.take j):=⟨_,λ_=>rfl⟩
  have hT0:T 0=[]:=by rw[hT];rfl
  have hTn:T D.length=U:=by rw[hT,qi,hU]
  have hTl:∀j,(T j).length<=16384:=λj=>by
   have h1:=Qr3 U (D.take j);rw[qv]at h1
   rw[hT];omega
  refine Qi [.c 4 0 0 2] (α:=Nat × Nat) (λp=>p.1<=D.length)
   (λp=>⟨[(2,.f fu []),(3,.p 0 1 0 0),(4,.p 1 1 0 0),(6,.p 2 1 0 0),(12,.p 4 1 0 0),(48,.own 3 (gn+1) 0 D.length),(49,.i .i64 D.length),(50,.i .i64 p.1)],
    [.arr 1 1 [[rwL a]],.arr 1 1 [[rwL b]],.arr 1 1 [[.nil]],.arr (gn+1) 1 (zs.map iel),.arr 1 1 [[.own 5 (p.2+1) 0 (T p.1).length]],.arr (p.2+1) 2 ((T p.1).map Rw.cs)]⟩)
   (λp=>D.length-p.1) (0,0) (by simp) ?_ ?_
  ·simp[go_sem,rwL,hT0];exact⟨λ_ _=>rfl,Xe _ _⟩
  rintro⟨j,gm⟩ hj;simp only at hj ⊢;by_cases hjl:j=D.length
  ·subst hjl;rw[hTn];have ht:List.take U.length (U.map Rw.cs)=U.map Rw.cs:=qe (by simp);simp (disch:=omega) [go_sem,ht,L2y.r];rw[if_pos (Q8w U)];rfl
  have hlt:j<D.length:=by omega
  have hq:D[j]?=some D[j]:=q9 hlt;have hz:zs[j]?=some D[j]:=by
   rw[<- hq,<- hzt,jf,if_pos hlt]
  have hTs:T (j+1)=T j++(if Yg U D[j]=[] then [] else [⟨D[j],Yg U D[j]⟩]):=by rw[hT,hT,Q6 hq,Qm1]
  have hTj:=hTl j;have va:=Eo ha ba D[j];have vb:=Eo hb bb D[j];have r1:=hr a D[j] ha ba;have r2:=hr b D[j] hb bb;have r3:=hu _ _ (Yg U D[j]) va.1 vb.1 va.2 vb.2 (hUv D[j]).1 (hUr D[j]);have hRl:=(hUv D[j]).1.len (hUv D[j]).2;have hcl:=hc (Yg U D[j]);generalize Yg U D[j]=R at *
  generalize Yg a D[j]=ra at *
  generalize Yg b D[j]=rb at *
  generalize D[j]=y at *
  obtain⟨hzl2,hz'⟩:=q8.1 hz;have htk:List.take (T j).length ((T j).map Rw.cs)=(T j).map Rw.cs:=qe (by simp);simp only[rgV]at r1 r2;simp (disch:=omega) [go_sem,hlt,hz,hz',iel,rwL,Q0];refine Qa r1 ?_;simp (disch:=omega) [go_sem,Q0];refine Qa r2 ?_;simp (disch:=omega) [go_sem,Q0];refine⟨hcb,Qa r3 ?_⟩;by_cases hR0:R=[]
  ·rw[if_pos hR0,List.append_nil]at hTs
   simp (disch:=omega) [go_sem,Q9,hR0,Q0];exact⟨j+1,by omega,by omega,by omega,Xe _ _,gm,⟨rfl,by rw[hTs]⟩,⟨rfl,by rw[hTs]⟩,Yp _ _⟩
  ·rw[if_neg hR0]at hTs
   have hRp:0<R.length:=jl.2 hR0;have hcl:=hcl hR0 hRl;simp only[Q9]at hcl;simp (disch:=omega) [go_sem,Q9,hRp,Q0];refine Qa hcl ?_;simp (disch:=omega) [go_sem,Q9,hRp,htk,Q0];exact⟨⟨by omega,by omega⟩,j+1,by omega,by omega,by omega,Xe _ _,gm+1,⟨rfl,by rw[hTs];simp⟩,⟨rfl,by rw[hTs];simp[Rw.cs,Q9]⟩,Yp _ _⟩
theorem Q5z {f fc fu:FuncId} (hf:Q5 P f (L2w.c fc fu) L2w.r L2w.n) (hc:Qbo P fc) (hcb:Qx P fu=true) (hu:Q83 P fu):Qtn P f:=by
 intro a b ha hb ba bb;have h:=hc fu hcb hu a b ha hb ba bb;refine PI hm hf ?_;unfold L2w.c;simp[go_sem,rgV];refine Q2 h ?_;simp[go_sem,rgV,V.cells,V.okA,L2w.r]
end
end Go.Abs
