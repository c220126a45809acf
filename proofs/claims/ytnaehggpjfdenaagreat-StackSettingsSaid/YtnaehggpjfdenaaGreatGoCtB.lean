/- Part of the library on which the proof stands: an abstract machine, its values and its soundness against the model; or what functions of the program do to such values. -/
import Derived.Test.YtnaehggpjfdenaaGreatGoSkB
import Derived.Test.YtnaehggpjfdenaaGreatGoStD
import Derived.Test.YtnaehggpjfdenaaGreatGoRevC
import Derived.Test.YtnaehggpjfdenaaGreatGoMapG
import Derived.Test.YtnaehggpjfdenaaGreatGoUnC
import Derived.Test.YtnaehggpjfdenaaGreatGoShp
import Derived.Test.YtnaehggpjfdenaaGreatGoMap
set_option linter.unusedVariables false
set_option linter.unusedSimpArgs false
set_option maxHeartbeats 8000000
set_option maxRecDepth 20000
namespace Go.Abs
def Qcj (P:Program) (f:FuncId):Prop:=∀n lo hi:Int,0<=lo->CallIs P f [.i .i64 n,.i .i64 lo,.i .i64 hi] (.b (Zn n lo hi))
def HgtC (P:Program) (f:FuncId):Prop:=∀top h:Int,top<=9223372036854775807->-9223372036854775808<=top->CallIs P f [.i .i64 top,.i .i64 h] (.t [isV (Q0d top h).1,.i .i64 (Q0d top h).2])
def Qq7 (P:Program) (f:FuncId):Prop:=Qq P f=true/\∀a b c:Int,CallIs P f [.i .i64 a,.i .i64 b,.i .i64 c] (.t [.i .i64 (min a c),.i .i64 (max b c)])
def Q4j (P:Program) (f:FuncId):Prop:=∀l:List V3,l.length<=1000000->CallIs P f [vsV l] (.t [(bLo l).enc,(bHi l).enc,.b (decide (l≠[]))])
def Qq8 (P:Program) (f:FuncId):Prop:=∀m:Mesh,m.check=0->CallIs P f [m.enc] (.t [(bLo m.verts).enc,(bHi m.verts).enc,.b (decide (m.verts≠[]))])
section
variable {P:Program} (hm:P.follows .mixedOrders=true)
include hm
theorem Q4s {f:FuncId} (hf:Q9 P f L1z.c L1z.r L1z.n):Qcj P f:=by
 intro n lo hi h0
 refine PureC.is (Q8 hm hf (qh rfl) ?_) rfl
 unfold L1z.c Zn
 by_cases h1:lo<=n
 ·by_cases h2:n<=hi
  ·have ht:n.tmod 2=n % 2:=jm (by omega)
   have w:=Q2 (z:=n % 2) (by omega) (by omega)
   by_cases h3:n % 2=0
   ·simp[go_sem,h1,h2,ht,h3,L1z.r]
   ·have hb:(n % 2 == 0)=false:=by simpa using h3
    simp[go_sem,h1,h2,ht,w,h3,hb,L1z.r]
  ·simp[go_sem,h1,h2,L1z.r]
 ·simp[go_sem,h1,L1z.r]
theorem Bl {f fe:FuncId} (hf:Q9 P f (L1w.c fe) L1w.r L1w.n) (he:Qcj P fe):HgtC P f:=by
 intro top h ht1 ht2
 have hec:=he h 4 1024 (by omega)
 unfold Q0d
 cases hev:Zn h 4 1024 with
 | false =>
   rw[hev]at hec
   rw[if_pos rfl]
   refine CallIs.res (r:=.t [.nil,.i .i64 1]) ?_ (.inr ⟨_,_,rfl,rfl,.inl (Le0.nil 1),Le1.refl _,trivial⟩)
   refine PureC.is (Q8 hm hf (qh rfl) ?_) rfl
   unfold L1w.c
   simp[go_sem]
   refine Q5 hec ?_
   simp[go_sem,L1w.r]
 | true =>
   rw[hev]at hec
   rw[if_neg (by simp)]
   have hh:4<=h/\h<=1024/\h % 2=0:=by
    unfold Zn at hev
    simp only[Bool.and_eq_true,decide_eq_true_eq]at hev
    omega
   have hq:h.tdiv 2=h / 2:=Int.tdiv_eq_ediv_of_nonneg (by omega)
   have hlt:=λi:Nat=>Qgb (top:=top) (h:=h) (by omega) (i:=i)
   have hmb:∀i:Nat,i<=257->0<=(i:Int)*h/\(i:Int)*h<=257*1024:=λi hi=>by
    refine⟨Int.mul_nonneg (by omega) (by omega),?_⟩
    exact Int.le_trans (jh (show (i:Int)<=257 by omega) (by omega)) (by omega)
   generalize Qbj top h=N at *
   by_cases hN:256<N
   ·rw[if_pos hN]
    refine CallIs.res (r:=.t [.nil,.i .i64 2]) ?_ (.inr ⟨_,_,rfl,rfl,.inl (Le0.nil 1),Le1.refl _,trivial⟩)
    refine PureC.is (Q8 hm hf (qh rfl) ?_) rfl
    unfold L1w.c
    simp[go_sem]
    refine Q5 hec ?_
    simp (disch:=omega) [go_sem,hq,Q2]
    refine Z0 [.t 6 1] (α:=Nat) (λi=>i<=256)
     (λi=>⟨[(0,.i .i64 top),(1,.i .i64 h),(6,.own 0 (i+1) 0 i),(7,.i .i64 ((i:Int)*h+h / 2))],[.arr (i+1) 1 ((Km h i).map iel)]⟩)
     (λi=>256-i) 0 (Nat.zero_le _) ?_ ?_
    ·simp[go_sem,Km]
    intro i hi
    have hl:=Wd h i
    have c1:=(hlt i).1 (by omega)
    have c2:=hmb i (by omega)
    have c3:=Q6f h i
    have c4:((i+1:Nat):Int)*h=i*h+h:=by push_cast;grind
    have c5:(i:Int)<256->i+1<=256:=by omega
    have ht:List.take i ((Km h i).map iel)=(Km h i).map iel:=qe (by simp[hl])
    by_cases hi2:i=256
    ·subst hi2
     have c1b:(256:Int)*h+h / 2<top:=by simpa using c1
     simp (disch:=omega) [go_sem,c1b,L1w.r]
    ·have hie:((i:Int) == 256)=false:=by simp;omega
     have hie2:¬ (i:Int)=256:=by omega
     generalize (i:Int)*h=M at *
     simp (disch:=omega) [go_sem,c1,hie,hie2,hl,ht,Q2]
     exact⟨⟨by omega,by omega⟩,i+1,by omega,by omega,⟨rfl,by omega⟩,⟨rfl,by rw[c3];simp[iel]⟩,Wc _ _⟩
   ·rw[if_neg hN]
    refine PureC.is (Q8 hm hf (qh rfl) ?_) rfl
    unfold L1w.c
    simp[go_sem]
    refine Q5 hec ?_
    simp (disch:=omega) [go_sem,hq,Q2]
    refine Z0 [.t 6 1] (α:=Nat) (λi=>i<=N)
     (λi=>⟨[(0,.i .i64 top),(1,.i .i64 h),(6,.own 0 (i+1) 0 i),(7,.i .i64 ((i:Int)*h+h / 2))],[.arr (i+1) 1 ((Km h i).map iel)]⟩)
     (λi=>N-i) 0 (Nat.zero_le _) ?_ ?_
    ·simp[go_sem,Km]
    intro i hi
    have hl:=Wd h i
    have c2:=hmb i (by omega)
    have c3:=Q6f h i
    have c4:((i+1:Nat):Int)*h=i*h+h:=by push_cast;grind
    have ht:List.take i ((Km h i).map iel)=(Km h i).map iel:=qe (by simp[hl])
    by_cases hin:i<N
    ·have c1:=(hlt i).1 hin
     have hie:((i:Int) == 256)=false:=by simp;omega
     have hie2:¬ (i:Int)=256:=by omega
     generalize (i:Int)*h=M at *
     simp (disch:=omega) [go_sem,c1,hie,hie2,hl,ht,Q2]
     exact⟨⟨by omega,by omega⟩,i+1,by omega,by omega,⟨rfl,by omega⟩,⟨rfl,by rw[c3];simp[iel]⟩,Wc _ _⟩
    ·obtain rfl:i=N:=by omega
     have c1:¬ (i:Int)*h+h / 2<top:=λhh=>hin ((hlt i).2 hh)
     simp (disch:=omega) [go_sem,c1,hl,ht,L1w.r]
     rw[if_pos (iel_isD _)];rfl
theorem Q13 {f:FuncId} (hf:Q9 P f L2b.c L2b.r L2b.n) (hcb:Qq P f=true):Qq7 P f:=by
 refine⟨hcb,λa b c=>?_⟩
 refine PureC.is (Q8 hm hf (qh rfl) ?_) rfl
 unfold L2b.c
 have e1:(if c<a then c else a)=min a c:=by split<;>omega
 have e2:(if b<c then c else b)=max b c:=by split<;>omega
 simp[go_sem,e1,e2,L2b.r]
end
def Jd (l:List (List Rw)):V:=.l 1 (l.map λg=>[rwL g])
def Qf5 (P:Program) (f:FuncId):Prop:=∀a b:List Rw,RgV a->RgV b->RgB a->RgB b->CallIs P f [rgV a,rgV b] (.b (decide (a=b)))
def Q9d (P:Program) (f:FuncId):Prop:=∀a b:List (List Rw),Xx a->Xx b->a.length<=1000->b.length<=1000->CallIs P f [Jd a,Jd b] (.b (decide (a=b)))
section
variable {P:Program} (hm:P.follows .mixedOrders=true)
include hm
theorem Q4o {f fm:FuncId} (hf:Q9 P f (L2a.c fm) L2a.r L2a.n) (hmm:Qq7 P fm):Q4j P f:=by
 intro l hl
 obtain⟨hcb,hmc⟩:=hmm
 refine PureC.is (Q8 hm hf (qh rfl) ?_) rfl
 unfold L2a.c
 cases l with
 | nil =>
   simp[go_sem,vsV,bLo,bHi,V3.enc,V3.cs,L2a.r]
 | cons v0 vs =>
   generalize hvs:v0::vs=l at hl ⊢
   have hll:0<l.length:=by rw[<- hvs];simp
   have hne:l≠[]:=by rw[<- hvs];simp
   have hq0:l[0]?=some v0:=by rw[<- hvs];rfl
   have eLo:bLo l=Q5u v0 l:=by rw[<- hvs];rfl
   have eHi:bHi l=Q0l v0 l:=by rw[<- hvs];rfl
   obtain⟨_,hq0'⟩:=q8.1 hq0
   clear hvs
   have hlf:((l.length:Int) == 0)=false:=by simp;omega
   rw[eLo,eHi]
   simp (disch:=omega) [go_sem,vsV,hll,hne,hlf,hq0,hq0',V3.cs,show ¬ l.length=0 by omega]
   obtain⟨A,hA⟩:∃A:Nat->V3,∀i,A i=Q5u v0 (l.take i):=⟨_,λ_=>rfl⟩
   obtain⟨B,hB⟩:∃B:Nat->V3,∀i,B i=Q0l v0 (l.take i):=⟨_,λ_=>rfl⟩
   have hA0:A 0=v0:=by rw[hA];rfl
   have hB0:B 0=v0:=by rw[hB];rfl
   have hAn:A l.length=Q5u v0 l:=by rw[hA,qi]
   have hBn:B l.length=Q0l v0 l:=by rw[hB,qi]
   refine Qf (α:=Nat) (λi=>i<=l.length)
    (λi=>⟨[(2,.p 0 1 0 0),(3,.p 1 1 0 0),(5,.p 2 1 0 0),(6,.p 3 1 0 0),(7,.f fm []),(21,vsV l),(22,.i .i64 l.length),(23,.i .i64 i)],[.arr 1 3 [(⟨0,0,0⟩:V3).cs],.arr 1 3 [(⟨0,0,0⟩:V3).cs],.arr 1 3 [(A i).cs],.arr 1 3 [(B i).cs]]⟩)
    (λi=>l.length-i) 0 (Nat.zero_le _) ?_ ?_
   ·simp[go_sem,vsV,V3.cs,hA0,hB0]
   intro i hi
   by_cases hil:i=l.length
   ·subst hil
    rw[hAn,hBn]
    simp[go_sem,vsV,V3.cs,V3.enc,L2a.r]
   have hlt:i<l.length:=by omega
   have hq:l[i]?=some l[i]:=q9 hlt
   have hAs:A (i+1)=⟨min (A i).x (l[i]).x,min (A i).y (l[i]).y,min (A i).z (l[i]).z⟩:=by rw[hA,hA,Qc hq,Qjo]
   have hBs:B (i+1)=⟨max (B i).x (l[i]).x,max (B i).y (l[i]).y,max (B i).z (l[i]).z⟩:=by rw[hB,hB,Qc hq,Qjp]
   generalize l[i]=v at *
   obtain⟨_,hq'⟩:=q8.1 hq
   have c1:=hmc (A i).x (B i).x v.x
   have c2:=hmc (A i).y (B i).y v.y
   have c3:=hmc (A i).z (B i).z v.z
   simp (disch:=omega) [go_sem,vsV,hlt,hq,hq',V3.cs,Q2]
   refine⟨hcb,Q5 c1 ?_⟩
   simp (disch:=omega) [go_sem,vsV,V3.cs,Q2]
   refine⟨hcb,Q5 c2 ?_⟩
   simp (disch:=omega) [go_sem,vsV,V3.cs,Q2]
   refine⟨hcb,Q5 c3 ?_⟩
   simp (disch:=omega) [go_sem,vsV,V3.cs,Q2]
   exact⟨i+1,by omega,by omega,by omega,by rw[hAs];exact⟨rfl,rfl,rfl⟩,by rw[hBs];exact⟨rfl,rfl,rfl⟩⟩
theorem Qb5 {f fc fb:FuncId} (hf:Q9 P f (L0d.c fc fb) L0d.r L0d.n) (hc:Jq P fc) (hb:Q4j P fb):Qq8 P f:=by
 intro m hm0
 have hcc:=hc m
 rw[hm0]at hcc
 have hl:=(Mesh.check_zero.1 hm0).1
 have hbc:=hb m.verts (by omega)
 refine PureC.is (Q8 hm hf (qh rfl) ?_) rfl
 unfold L0d.c
 simp[go_sem,Mesh.enc,Mesh.cs]
 refine Q5 hcc ?_
 simp[go_sem]
 refine Q5 hbc ?_
 simp[go_sem,V3.enc,V3.cs,L0d.r]
theorem Q52 {f:FuncId} (hf:Q9 P f L0w.c L0w.r L0w.n):Qf5 P f:=by
 intro a b ha hb ba bb
 have hal:=ha.len ba
 have hbl:=hb.len bb
 refine PureC.is (Q8 hm hf (qh rfl) ?_) rfl
 unfold L0w.c
 by_cases hlen:a.length=b.length
 case neg =>
  have hne:¬ a=b:=λh=>hlen (by rw[h])
  have hb1:((a.length:Int) == b.length)=false:=by simp;omega
  have hb2:((a.length:Int) != b.length)=true:=by simp;omega
  simp[go_sem,rgV,hb1,hb2,hne,hlen,L0w.r]
 simp[go_sem,rgV,hlen]
 refine Qf (α:=Nat) (λi=>i<=a.length/\a.take i=b.take i)
  (λi=>⟨[(2,.p 0 1 0 0),(3,.p 1 1 0 0),(5,.i .i64 i)],[.arr 1 1 [[rwL a]],.arr 1 1 [[rwL b]]]⟩)
  (λi=>a.length-i) 0 ⟨Nat.zero_le _,rfl⟩ ?_ ?_
 ·simp[go_sem,rwL]
 rintro i ⟨hi,hpre⟩
 by_cases hil:i=a.length
 ·subst hil
  have he:a=b:=by
   rw[qi,hlen,qi]at hpre
   exact hpre
  subst he
  simp[go_sem,rwL,L0w.r]
 have hlt:i<a.length:=by omega
 have hlt2:i<b.length:=by omega
 have hq:a[i]?=some a[i]:=q9 hlt
 have hr:b[i]?=some b[i]:=q9 hlt2
 have hal2:=(ha.rs _ (qb hq)).len (ba.rnb ha (qb hq))
 generalize a[i]=v at *
 generalize b[i]=w at *
 obtain⟨_,hq'⟩:=q8.1 hq
 obtain⟨_,hr'⟩:=q8.1 hr
 have hdiff:v≠w->¬ a=b:=λhvw he=>by
  rw[he,hr]at hq
  simp at hq
  exact hvw hq.symm
 by_cases hy:v.y=w.y
 case neg =>
  have hne:=hdiff λh=>hy (by rw[h])
  have hb1:(v.y != w.y)=true:=by simpa using hy
  simp (disch:=omega) [go_sem,rwL,hlt,hlt2,hq,hq',hr,hr',Rw.cs,hy,hb1,hne,Q2,L0w.r]
 by_cases hrl:v.rs.length=w.rs.length
 case neg =>
  have hne:=hdiff λh=>hrl (by rw[h])
  have hb1:((v.rs.length:Int) != w.rs.length)=true:=by simp;omega
  simp (disch:=omega) [go_sem,rwL,hlt,hlt2,hq,hq',hr,hr',Rw.cs,Qi,hy,hrl,hb1,hne,Q2,L0w.r]
 simp (disch:=omega) [go_sem,rwL,hlt,hlt2,hq,hq',hr,hr',Rw.cs,Qi,hy,hrl,Q2]
 refine Qf (α:=Nat) (λj=>j<=v.rs.length/\v.rs.take j=w.rs.take j)
  (λj=>⟨[(2,.p 0 1 0 0),(3,.p 1 1 0 0),(5,.i .i64 i),(6,.p 2 1 0 0),(7,.p 3 1 0 0),(8,.i .i64 j)],[.arr 1 1 [[rwL a]],.arr 1 1 [[rwL b]],.arr 1 2 [v.cs],.arr 1 2 [w.cs]]⟩)
  (λj=>v.rs.length-j) 0 ⟨Nat.zero_le _,rfl⟩ ?_ ?_
 ·simp[go_sem,rwL,Rw.cs,Qi,hy]
 rintro j ⟨hj,hpre2⟩
 by_cases hjl:j=v.rs.length
 ·subst hjl
  have he:v=w:=by
   rw[qi,hrl,qi]at hpre2
   cases v;cases w;simp_all
  subst he
  simp (disch:=omega) [go_sem,rwL,Rw.cs,Qi,Q2]
  exact⟨i+1,⟨by omega,by rw[Qc hq,Qc hr,hpre]⟩,by omega,by omega⟩
 have hjt:j<v.rs.length:=by omega
 have hjt2:j<w.rs.length:=by omega
 have hu:v.rs[j]?=some v.rs[j]:=q9 hjt
 have hx:w.rs[j]?=some w.rs[j]:=q9 hjt2
 have hdiff2:v.rs[j]≠w.rs[j]->¬ a=b:=λhne=>hdiff λh=>by
  subst h
  exact hne rfl
 generalize v.rs[j]=r at *
 generalize w.rs[j]=s at *
 obtain⟨_,hu'⟩:=q8.1 hu
 obtain⟨_,hx'⟩:=q8.1 hx
 by_cases hrs:r=s
 ·subst hrs
  simp (disch:=omega) [go_sem,rwL,Rw.cs,Rn.cs,Qi,hjt,hjt2,hu,hu',hx,hx',Q2]
  exact⟨j+1,⟨by omega,by rw[Qc hu,Qc hx,hpre2]⟩,by omega,by omega⟩
 ·have hne:=hdiff2 hrs
  have hor:¬ r.a=s.a∨¬ r.b=s.b:=by
   by_cases h1:r.a=s.a
   ·right;intro h2;apply hrs;cases r;cases s;simp_all
   ·exact .inl h1
  have hbo:(!r.a == s.a || !r.b == s.b)=true:=by
   rcases hor with h1 | h1<;>simp[h1]
  simp (disch:=omega) [go_sem,rwL,Rw.cs,Rn.cs,Qi,hjt,hjt2,hu,hu',hx,hx',hor,hbo,hne,Q2,L0w.r]
theorem Q50 {f fs:FuncId} (hf:Q9 P f (L0z.c fs) L0z.r L0z.n) (hs:Qf5 P fs):Q9d P f:=by
 intro a b ha hb hal hbl
 refine PureC.is (Q8 hm hf (qh rfl) ?_) rfl
 unfold L0z.c
 by_cases hlen:a.length=b.length
 case neg =>
  have hne:¬ a=b:=λh=>hlen (by rw[h])
  have hb2:((a.length:Int) != b.length)=true:=by simp;omega
  simp[go_sem,Jd,hb2,hne,hlen,L0z.r]
 simp[go_sem,Jd,hlen]
 refine Qf (α:=Nat) (λi=>i<=a.length/\a.take i=b.take i)
  (λi=>⟨[(0,Jd a),(1,Jd b),(5,.i .i64 i)],[]⟩)
  (λi=>a.length-i) 0 ⟨Nat.zero_le _,rfl⟩ ?_ ?_
 ·simp[go_sem,Jd]
 rintro i ⟨hi,hpre⟩
 by_cases hil:i=a.length
 ·subst hil
  have he:a=b:=by
   rw[qi,hlen,qi]at hpre
   exact hpre
  subst he
  simp[go_sem,Jd,L0z.r]
 have hlt:i<a.length:=by omega
 have hlt2:i<b.length:=by omega
 have hq:a[i]?=some a[i]:=q9 hlt
 have hr:b[i]?=some b[i]:=q9 hlt2
 have va:=ha _ (qb hq)
 have vb:=hb _ (qb hr)
 generalize a[i]=v at *
 generalize b[i]=w at *
 obtain⟨_,hq'⟩:=q8.1 hq
 obtain⟨_,hr'⟩:=q8.1 hr
 have hsc:=hs v w va.1 vb.1 va.2 vb.2
 simp only[rgV]at hsc
 simp (disch:=omega) [go_sem,Jd,rwL,hlt,hlt2,hq,hq',hr,hr',Q2]
 refine Qo hsc ?_
 by_cases he:v=w
 ·subst he
  simp (disch:=omega) [go_sem,Jd,rwL,Q2]
  exact⟨i+1,⟨by omega,by rw[Qc hq,Qc hr,hpre]⟩,by omega,by omega⟩
 ·have hne:¬ a=b:=λh=>by
   rw[h,hr]at hq
   simp at hq
   exact he hq.symm
  simp (disch:=omega) [go_sem,Jd,rwL,he,hne,Q2,L0z.r]
end
def L05.c:C :=(.seq (.reg [Au 2 (.box (.t 0)),Au 3 (.box (.t 1)),Ac 4 0]) (.seq (.blk 0 (.seq (.reg [Af 6 0 2,Al 7 6,Af 8 0 3,Al 9 8,Aj .lss 10 7 9,Am 11 10,Aw 12 11 (.fa 0 (.t 2)),Aw 13 11 (.ld none (.t 12)),Aw 14 11 (.fa 0 (.t 3)),Aw 15 11 (.ld none (.t 14)),Aw 16 11 (.bin .eql (.t 13) (.t 15)),Aw 17 11 (.mv (.t 16)),Av 18 17 (.fa 1 (.t 2)),Av 19 17 (.ld none (.t 18)),Av 20 17 (.fa 1 (.t 3)),Av 21 17 (.ld none (.t 20)),Av 22 17 (.bin .lss (.t 19) (.t 21)),Aw 23 11 (.pick (.t 17) (.t 22) (.c (.b false))),Ao 24 11 23,Am 5 24]) (.ite (.t 5) (.seq (.reg [Ac 4 (-1)]) .ret) (.seq (.reg [Ag 26 2 2,
 Ag 27 2 3,Au 28 (.eqa [1,1] false (.t 26) (.t 27)),Am 25 28]) (.ite (.t 25) (.seq (.reg [Ac 4 0]) .ret) .skip))))) (.seq (.reg [Ac 4 1]) .ret)))
def L05.r:List Rr:=[.tmp 4]
abbrev L05.n:Nat:=29
def L03.c:C :=(.seq (.reg [Ab 2 false]) (.seq (.reg [Au 8 (.mkm none),Am 3 8]) (.seq (.seq (.reg [Am 9 0,An 10 0 9,Ac 11 0]) (.blk 0 (.loop (.seq (.reg [Aj .lss 12 11 10]) (.seq (.ite (.t 12) .skip (.exit 0)) (.seq (.blk 1 (.seq (.reg [Ai 13 4 9 11,Ag 14 4 13,Au 5 (.alloc [(.i .i64 0),(.i .i64 0),(.i .i64 0),(.i .i64 0)]),As 4 5 14]) (.seq (.reg [Am 15 3,Af 16 0 5,Ag 17 2 16,⟨none,none,.eqa [1,1] false (.t 17) (.t 17)⟩,Au 18 (.lk [1,1] (.i .i64 0) false (.t 15) (.t 17)),Ad 19 18 1,Au 20 (.ment [1,1] (.i .i64 0) (.t 15) (.t 17)),Ax1 21 1 20,⟨none,none,.est (.t 15) (.t 21) (.t 19)⟩]) (.reg [Am 22 3,
 Af 23 2 5,Ag 24 2 23,⟨none,none,.eqa [1,1] false (.t 24) (.t 24)⟩,Au 25 (.lk [1,1] (.i .i64 0) false (.t 22) (.t 24)),Ak .sub 26 25 1,Au 27 (.ment [1,1] (.i .i64 0) (.t 22) (.t 24)),Ax1 28 1 27,⟨none,none,.est (.t 22) (.t 28) (.t 26)⟩])))) (.reg [Ad 29 11 1,Am 11 29]))))))) (.seq (.seq (.reg [Am 30 3,Au 31 (.mrng (.t 30))]) (.blk 2 (.loop (.seq (.reg [Au 32 (.mnx (.t 31)),Ax1 33 0 32]) (.seq (.ite (.t 33) .skip (.exit 2)) (.blk 3 (.seq (.reg [Au 34 (.men (.t 31)),Ax1 35 1 34,Am 7 35]) (.seq (.reg [Am 36 7,Ak .neq 37 36 0]) (.ite (.t 37) (.seq (.reg [Ab 2 false]) .ret) .skip))))))))) (.seq (.reg [
 Ab 2 true]) .ret)))))
def L03.r:List Rr:=[.tmp 2]
abbrev L03.n:Nat:=38
def L07.c:C :=(.seq (.reg [Au 3 (.box (.t 1)),Au 4 (.alloc [(.i .i64 0),(.i .i64 0)])]) (.seq (.reg [Am 6 0,Ag 7 2 3,Au 8 (.lk [1,1] .nil false (.t 6) (.t 7)),Am 5 8]) (.seq (.seq (.reg [Am 9 5,An 10 0 9,Ak .eql 11 10 1]) (.ite (.t 11) (.reg [Am 12 0,Ag 13 2 3,⟨none,none,.mdel [1,1] (.t 12) (.t 13)⟩]) (.drw [Am 14 0,Ag 15 2 3,Am 16 5,Au 17 (.slc 2 (.t 16) (some (.c (.i .i64 1))) none),⟨none,none,.mup [1,1] (.t 14) (.t 15) (.t 17)⟩] []))) (.seq (.reg [Am 18 5,Au 19 (.ia 2 (.t 18) (.c (.i .i64 0))),Ag 20 2 19,As 2 4 20]) .ret))))
def L07.r:List Rr:=[.cell 4 (some 2)]
abbrev L07.n:Nat:=21
def L06.c (L07:FuncId):C :=(.seq (.reg [Au 3 (.box (.t 1)),Au 4 (.alloc [.nil])]) (.seq (.reg [Ag 7 2 3,Au 8 (.bso 2 1 [(.i .i64 0),(.i .i64 0)] [(0,(.t 7))]),Au 9 (.build [.nil] [(0,1,(.t 8))]),Au 5 (.alloc [.nil]),As 1 5 9]) (.seq (.seq (.reg [Am 10 0,Ag 11 2 3,Au 12 (.call L07 [.t 10,.t 11]),Au 6 (.alloc [(.i .i64 0),(.i .i64 0)]),As 2 6 12]) (.blk 0 (.loop (.seq (.seq (.reg [Ag 13 2 6,Ag 14 2 3,Au 15 (.eqa [1,1] true (.t 13) (.t 14)),Am 16 15,Av 17 16 (.mv (.t 0)),Av 18 16 (.ld (some 2) (.t 6)),Av 19 16 (.lk [1,1] .nil false (.t 17) (.t 18)),Av 20 16 (.len 0 (.t 19)),Av 21 16 (.bin .gtr (.t 20) (.c (.i .i64 0))),
 Ap 22 16 21]) (.ite (.t 22) .skip (.exit 0))) (.seq (.blk 1 (.reg [Af 26 0 5,Al 27 26,Ag 28 2 6,Au 29 (.bsi 2 1 [(.i .i64 0),(.i .i64 0)] [(0,(.t 28))]),Au 30 (.app 2 16 (.t 27) (.t 29)),Af 31 0 5,As 1 31 30])) (.seq (.seq (.reg [Ag 32 2 6]) (.reg [Au 6 (.alloc [(.i .i64 0),(.i .i64 0)]),As 2 6 32])) (.reg [Am 23 0,Ag 24 2 6,Au 25 (.call L07 [.t 23,.t 24]),As 2 6 25]))))))) (.seq (.reg [Ag 33 1 5,As 1 4 33]) .ret))))
def L06.r:List Rr:=[.cell 4 (some 1)]
abbrev L06.n:Nat:=34
def L04.c (L0m L03 slices_SortFunc_api_Pt_api_Pt L05 L06:FuncId):C :=(.seq (.reg [Az 2,Ac 3 0]) (.seq (.seq (.reg [Am 15 0,An 16 0 15,Ak .gtr 17 16 8192]) (.ite (.t 17) (.seq (.reg [Az 2,Ac 3 2]) .ret) .skip)) (.seq (.seq (.reg [Am 18 0,An 19 0 18,Ac 20 0]) (.blk 0 (.loop (.seq (.reg [Aj .lss 21 20 19]) (.seq (.ite (.t 21) .skip (.exit 0)) (.seq (.blk 1 (.seq (.reg [Ai 22 4 18 20,Ag 23 4 22,Au 5 (.alloc [(.i .i64 0),(.i .i64 0),(.i .i64 0),(.i .i64 0)]),As 4 5 23]) (.seq (.reg [Af 24 0 5,Ag 25 2 24,Au 26 (.call L0m [.t 25]),Au 27 (.un .not (.t 26)),Am 28 27,Aw 29 28 (.fa 2 (.t 5)),Aw 30 28 (.ld (some 2) (.t 29)),
 Aw 31 28 (.call L0m [.t 30]),Aw 32 28 (.un .not (.t 31)),Ao 33 28 32]) (.ite (.t 33) (.seq (.reg [Az 2,Ac 3 8]) .ret) .skip)))) (.reg [Ad 34 20 1,Am 20 34]))))))) (.seq (.seq (.reg [Am 35 0,Au 36 (.call L03 [.t 35]),Au 37 (.un .not (.t 36))]) (.ite (.t 37) (.seq (.reg [Az 2,Ac 3 12]) .ret) .skip)) (.seq (.reg [Au 38 (.mkm none),Am 6 38]) (.seq (.reg [Az 7]) (.seq (.seq (.reg [Am 39 0,An 40 0 39,Ac 41 0]) (.blk 2 (.loop (.seq (.reg [Aj .lss 42 41 40]) (.seq (.ite (.t 42) .skip (.exit 2)) (.seq (.blk 3 (.seq (.reg [Ai 43 4 39 41,Ag 44 4 43,Au 9 (.alloc [(.i .i64 0),(.i .i64 0),(.i .i64 0),(.i .i64 0)]),
 As 4 9 44]) (.seq (.seq (.reg [Af 45 0 9,Ag 46 2 45,Af 47 2 9,Ag 48 2 47,Au 49 (.eqa [1,1] false (.t 46) (.t 48))]) (.ite (.t 49) (.exit 3) .skip)) (.seq (.seq (.reg [Am 50 6,Af 51 0 9,Ag 52 2 51,Au 53 (.lk [1,1] .nil false (.t 50) (.t 52)),An 54 0 53,Ak .eql 55 54 0]) (.ite (.t 55) (.reg [Am 56 7,Af 57 0 9,Ag 58 2 57,Au 59 (.bsi 2 1 [(.i .i64 0),(.i .i64 0)] [(0,(.t 58))]),Au 60 (.app 2 16 (.t 56) (.t 59)),Am 7 60]) .skip)) (.reg [Am 61 6,Af 62 0 9,Ag 63 2 62,Af 65 2 9,Ag 66 2 65,Au 67 (.bsi 2 1 [(.i .i64 0),(.i .i64 0)] [(0,(.t 66))]),Au 68 (.ment [1,1] .nil (.t 61) (.t 63)),Ax1 64 0 68,Au 69 (.app 2 16 (.t 64) (.t 67)),
 Ax1 70 1 68,⟨none,none,.est (.t 61) (.t 70) (.t 69)⟩]))))) (.reg [Ad 71 41 1,Am 41 71]))))))) (.seq (.reg [Am 72 7,Au 73 (.call slices_SortFunc_api_Pt_api_Pt [.t 72,(.c (.f L05 []))])]) (.seq (.seq (.reg [Am 74 7,An 75 0 74,Ac 76 0]) (.blk 4 (.loop (.seq (.reg [Aj .lss 77 76 75]) (.seq (.ite (.t 77) .skip (.exit 4)) (.seq (.blk 5 (.seq (.reg [Ai 78 2 74 76,Ag 79 2 78,Au 11 (.alloc [(.i .i64 0),(.i .i64 0)]),As 2 11 79]) (.reg [Am 80 6,Ag 81 2 11,Au 82 (.lk [1,1] .nil false (.t 80) (.t 81)),Au 83 (.call slices_SortFunc_api_Pt_api_Pt [.t 82,(.c (.f L05 []))])]))) (.reg [Ad 84 76 1,Am 76 84])))))))
 (.seq (.reg [Az 12]) (.seq (.seq (.reg [Am 85 7,An 86 0 85,Ac 87 0]) (.blk 6 (.loop (.seq (.reg [Aj .lss 88 87 86]) (.seq (.ite (.t 88) .skip (.exit 6)) (.seq (.blk 7 (.seq (.reg [Ai 89 2 85 87,Ag 90 2 89,Au 14 (.alloc [(.i .i64 0),(.i .i64 0)]),As 2 14 90]) (.blk 8 (.loop (.seq (.seq (.reg [Am 91 6,Ag 92 2 14,Au 93 (.lk [1,1] .nil false (.t 91) (.t 92)),An 94 0 93,Ak .gtr 95 94 0]) (.ite (.t 95) .skip (.exit 8))) (.blk 9 (.reg [Am 96 12,Am 97 6,Ag 98 2 14,Au 99 (.call L06 [.t 97,.t 98]),Au 100 (.bso 1 1 [.nil] [(0,(.t 99))]),Au 101 (.app 1 24 (.t 96) (.t 100)),Am 12 101]))))))) (.reg [Ad 102 87 1,
 Am 87 102]))))))) (.seq (.reg [Am 103 12,Am 2 103,Ac 3 0]) .ret))))))))))))
def L04.r:List Rr:=[.tmp 2,.tmp 3]
abbrev L04.n:Nat:=104
def Et (es:List Eg) (p:P2):Int:=(es.countP (λe=>decide (e.1=p)):Int)-es.countP (λe=>decide (e.2=p))
def Qc9 (es:List Eg):Bool:=es.all λe=>decide (Et es e.1=0) && decide (Et es e.2=0)
theorem balB_iff {es:List Eg}:Qc9 es=true↔Bc es:=by
 unfold Qc9
 rw[qj]
 constructor
 ·intro h p
  by_cases hp:(∃e∈es,e.1=p)∨∃e∈es,e.2=p
  ·have:Et es p=0:=by
    rcases hp with⟨e,he,rfl⟩ | ⟨e,he,rfl⟩
    ·have:=h e he;simp only[Bool.and_eq_true,decide_eq_true_eq]at this;exact this.1
    ·have:=h e he;simp only[Bool.and_eq_true,decide_eq_true_eq]at this;exact this.2
   unfold Et at this;omega
  ·have h1:es.countP (λe=>decide (e.1=p))=0:=List.countP_eq_zero.2 λe he=>by
    simp only[decide_eq_true_eq];exact λhh=>hp (.inl ⟨e,he,hh⟩)
   have h2:es.countP (λe=>decide (e.2=p))=0:=List.countP_eq_zero.2 λe he=>by
    simp only[decide_eq_true_eq];exact λhh=>hp (.inr ⟨e,he,hh⟩)
   rw[h1,h2]
 ·intro h e he
  have h1:=h e.1
  have h2:=h e.2
  simp only[Bool.and_eq_true,decide_eq_true_eq]
  unfold Et
  omega
def Qqt (P:Program) (f:FuncId):Prop:=∀l:List Sg4,l.length<=4096->CallIs P f [Y8 l] (.b (Qc9 (egs l)))
theorem Q2d (l:List Sg4):(egs l).length=l.length:=by simp[egs]
theorem Qjn (es:List Eg) (e:Eg) (p:P2):Et (es++[e]) p=Et es p+(if e.1=p then 1 else 0)-(if e.2=p then 1 else 0):=by
 unfold Et
 rw[List.countP_append,List.countP_append,List.countP_singleton,List.countP_singleton]
 by_cases h1:e.1=p<;>by_cases h2:e.2=p<;>simp[h1,h2]<;>omega
theorem Qgn (es:List Eg) (p:P2):-(es.length:Int)<=Et es p/\Et es p<=es.length:=by
 unfold Et
 have h1:=List.countP_le_length (p:=λe:Eg=>decide (e.1=p)) (l:=es)
 have h2:=List.countP_le_length (p:=λe:Eg=>decide (e.2=p)) (l:=es)
 omega
theorem p2_iff {a b:P2}:a=b↔a.x=b.x/\a.y=b.y:=by cases a;cases b;simp
theorem Qa5 (l:List Sg4) {k:Nat} {s:Sg4} (h:l[k]?=some s):egs (l.take (k+1))=egs (l.take k)++[s.eg]:=by
 unfold egs;rw[List.take_add_one,h];simp
def Qd8 (l:List Sg4) (i:Nat):Sg4:=(l[i]?).getD Sg4.init
end Go.Abs
