/- Part of the library on which the proof stands: an abstract machine, its values and its soundness against the model; or what functions of the program do to such values. -/
import Derived.Test.YtjggbpiapinceaaGreatGoUnL
import Derived.Test.YtjggbpiapinceaaGreatGoShp
import Derived.Test.YtjggbpiapinceaaGreatGoSet
import Derived.Test.YtjggbpiapinceaaGreatGoSc
import Derived.Test.YtjggbpiapinceaaGreatGoRevC
import Derived.Test.YtjggbpiapinceaaGreatGoUnB
import Derived.Test.YtjggbpiapinceaaGreatGoMap
set_option linter.unusedVariables false
set_option linter.unusedSimpArgs false
set_option maxHeartbeats 16000000
set_option maxRecDepth 20000
namespace Go.Abs
theorem CallIs.lel {P:Program} {f:FuncId} {us vs:List V} {r:V} (hl:LeL Le us vs) (h:CallIs P f vs r):CallIs P f us r:=λhh J m w cargs hr hp =>
 h hh J m w cargs hr (LeL.pw (R:=Le) (Q:=RV J m w) (λu v c h1 h2=>h1.rv h2) hl hp)
def OpC (P:Program) (f:FuncId):Prop:=∀(op:Int) (a b:List Rw),RgV a->RgV b->RgB a->RgB b->CallIs P f [.i .i64 op,rgV a,rgV b] (rgV (opR op a b))
def UniC (P:Program) (f:FuncId):Prop:=∀a b:List Rw,RgV a->RgV b->RgB a->RgB b->CallIs P f [rgV a,rgV b] (rgV (Qik a b))
section
variable {P:Program} (hm:P.follows .mixedOrders=true)
include hm
theorem Ek {f fv fc:FuncId} (hf:Q9 P f (L16.c fv fc) L16.r L16.n) (hv:Q1l P fv) (hc:Qoe P fc):OpC P f:=by
 intro op a b ha hb ba bb
 have hal:=ha.len ba
 have hbl:=hb.len bb
 have v1:=hv a ha ba
 have v2:=hv b hb bb
 refine PureC.is (Q8 hm hf (qh rfl) ?_) rfl
 unfold L16.c
 simp[go_sem,rgV]
 refine Q5 v1 ?_
 simp[go_sem,rgV]
 refine Q5 v2 ?_
 simp[go_sem,rgV]
 refine Zc [.c 3 0 0 2] (α:=Nat × Nat × Int × List Rw × Nat) (Q0a op a b) (opS op a b) (Qbq a b) (0,0,-5000,[],0) (OpI.start ha hb ba bb) ?_ ?_
 ·simp[go_sem,opS,rwL]
 rintro⟨i,k,Y,out,g⟩ hI
 unfold Q0a at hI
 simp only at hI
 have hil:=hI.i_le
 have hkl:=hI.k_le
 have hol:=hI.len
 by_cases hend:i=a.length/\k=b.length
 ·obtain⟨h1,h2⟩:=hend
  rw[h1,h2]at hI
  have hout:=hI.done ha hb ba bb
  rw[<- hout]
  have ht:List.take out.length (out.map Rw.cs)=out.map Rw.cs:=qe (by simp)
  unfold opS
  simp[go_sem,rwL,h1,h2,ht,L16.r]
  rw[if_pos (Qbg out)];rfl
 have key:∀{y:Int} {i' k':Nat} {p q:V},Y<y->((i'=i/\∀w∈a.drop i,y<w.y)∨(i'=i+1/\∃w,a[i]?=some w/\w.y=y))->((k'=k/\∀w∈b.drop k,y<w.y)∨(k'=k+1/\∃w,b[k]?=some w/\w.y=y))->i+k<i'+k' ->
   Le p (Qe (if i'=i then [] else ((a[i]?).map Rw.rs).getD []))->Le q (Qe (if k'=k then [] else ((b[k]?).map Rw.rs).getD [])) ->
   ∃R:List Rn,CallIs P fc [.i .i64 op,p,q] (Qe R)/\R.length<=8192/\OpI op a b i' k' y (if R=[] then out else out++[⟨y,R⟩]):=by
  intro y i' k' p q hy h1 h2 h3 hp hq
  obtain⟨s1,s2,s3⟩:=hI.step ha hb ba bb hy h1 h2 h3
  obtain⟨r1,r2⟩:=Qe5 (op:=op) ha hb ba bb y
  have va:=Q6d ha ba y
  have vb:=Q6d hb bb y
  have hcc:=hc op _ _ _ va.1 vb.1 va.2 vb.2 r1 r2
  rw[s2,s3]at hcc
  exact⟨_,CallIs.lel (show LeL Le [.i .i64 op,p,q] [.i .i64 op,Qe _,Qe _] from ⟨Le.refl _,hp,hq,trivial⟩) hcc,r1.len (Q6d (Q09 op a b) (Q9b op a b) y).2,s1⟩
 have hnil:Le .nil (Qe []):=.inl (.inl (Le0.nil 2))
 -- the row that comes next
 have hcase:(i<a.length/\k=b.length)∨(i=a.length/\k<b.length)∨(∃(h1:i<a.length) (h2:k<b.length),(a[i]).y<(b[k]).y)∨(∃(h1:i<a.length) (h2:k<b.length),(a[i]).y=(b[k]).y)∨(∃(h1:i<a.length) (h2:k<b.length),(b[k]).y<(a[i]).y):=by
  by_cases c1:i<a.length
  ·by_cases c2:k<b.length
   ·rcases (show (a[i]).y<(b[k]).y∨(a[i]).y=(b[k]).y∨(b[k]).y<(a[i]).y by omega) with c | c | c
    ·exact .inr (.inr (.inl ⟨c1,c2,c⟩))
    ·exact .inr (.inr (.inr (.inl ⟨c1,c2,c⟩)))
    ·exact .inr (.inr (.inr (.inr ⟨c1,c2,c⟩)))
   ·exact .inl ⟨c1,by omega⟩
  ·exact .inr (.inl ⟨by omega,by omega⟩)
 have hda:∀(h1:i<a.length),∀w∈a.drop i,(a[i]).y<=w.y:=λh1 w hw=>by
  rw[List.drop_eq_getElem_cons h1]at hw
  rcases List.mem_cons.1 hw with rfl | hw
  ·exact Int.le_refl _
  ·have:=Ie ha (q9 h1) w hw;omega
 have hdb:∀(h2:k<b.length),∀w∈b.drop k,(b[k]).y<=w.y:=λh2 w hw=>by
  rw[List.drop_eq_getElem_cons h2]at hw
  rcases List.mem_cons.1 hw with rfl | hw
  ·exact Int.le_refl _
  ·have:=Ie hb (q9 h2) w hw;omega
 rcases hcase with⟨h1,h2⟩ | ⟨h1,h2⟩ | ⟨h1,h2,c⟩ | ⟨h1,h2,c⟩ | ⟨h1,h2,c⟩
 ·have hq:a[i]?=some a[i]:=q9 h1
  obtain⟨R,hR,hRl,hst⟩:=key (y:=(a[i]).y) (i':=i+1) (k':=k) (p:=Qe (a[i]).rs) (q:=.nil) (hI.ahi _ (Y9 hq)) (.inr ⟨rfl,_,hq,rfl⟩) (.inl ⟨rfl,by rw[h2];simp⟩) (by omega)
   (by rw[if_neg (by omega),hq];exact Le.refl _) (by rw[if_pos rfl];exact hnil)
  exact Qjy hal hbl hil hkl hol h1 h2 hq hR hst _
 ·have hq:b[k]?=some b[k]:=q9 h2
  obtain⟨R,hR,hRl,hst⟩:=key (y:=(b[k]).y) (i':=i) (k':=k+1) (p:=.nil) (q:=Qe (b[k]).rs) (hI.bhi _ (Y9 hq)) (.inl ⟨rfl,by rw[h1];simp⟩) (.inr ⟨rfl,_,hq,rfl⟩) (by omega)
   (by rw[if_pos rfl];exact hnil) (by rw[if_neg (by omega),hq];exact Le.refl _)
  exact Qjx hal hbl hil hkl hol h1 h2 hq hR hst _
 ·have hq:a[i]?=some a[i]:=q9 h1
  have hr:b[k]?=some b[k]:=q9 h2
  obtain⟨R,hR,hRl,hst⟩:=key (y:=(a[i]).y) (i':=i+1) (k':=k) (p:=Qe (a[i]).rs) (q:=.nil) (hI.ahi _ (Y9 hq)) (.inr ⟨rfl,_,hq,rfl⟩) (.inl ⟨rfl,λw hw=>by have:=hdb h2 w hw;omega⟩) (by omega)
   (by rw[if_neg (by omega),hq];exact Le.refl _) (by rw[if_pos rfl];exact hnil)
  exact Qjw hal hbl hil hkl hol h1 h2 hq hr c hR hst _
 ·have hq:a[i]?=some a[i]:=q9 h1
  have hr:b[k]?=some b[k]:=q9 h2
  obtain⟨R,hR,hRl,hst⟩:=key (y:=(b[k]).y) (i':=i+1) (k':=k+1) (p:=Qe (a[i]).rs) (q:=Qe (b[k]).rs) (hI.bhi _ (Y9 hr)) (.inr ⟨rfl,_,hq,c⟩) (.inr ⟨rfl,_,hr,rfl⟩) (by omega)
   (by rw[if_neg (by omega),hq];exact Le.refl _) (by rw[if_neg (by omega),hr];exact Le.refl _)
  exact Qjv hal hbl hil hkl hol h1 h2 hq hr c hR hst _
 ·have hq:a[i]?=some a[i]:=q9 h1
  have hr:b[k]?=some b[k]:=q9 h2
  obtain⟨R,hR,hRl,hst⟩:=key (y:=(b[k]).y) (i':=i) (k':=k+1) (p:=.nil) (q:=Qe (b[k]).rs) (hI.bhi _ (Y9 hr)) (.inl ⟨rfl,λw hw=>by have:=hda h1 w hw;omega⟩) (.inr ⟨rfl,_,hr,rfl⟩) (by omega)
   (by rw[if_pos rfl];exact hnil) (by rw[if_neg (by omega),hr];exact Le.refl _)
  exact Qju hal hbl hil hkl hol h1 h2 hq hr c hR hst _
theorem Q2d {f fo:FuncId} (hf:Q9 P f (L0y.c fo) L0y.r L0y.n) (ho:OpC P fo):UniC P f:=by
 intro a b ha hb ba bb
 have h:=ho 0 a b ha hb ba bb
 rw[Q9a]at h
 refine PureC.is (Q8 hm hf (qh rfl) ?_) rfl
 unfold L0y.c
 simp[go_sem,rgV]
 refine Q5 h ?_
 simp[go_sem,rgV,V.cells,V.okA,L0y.r]
end
def L1o.c:C :=(.seq (.reg [Ab 6 false]) (.seq (.reg [Am 7 0,Am 8 1,Aj .geq 9 7 8,Am 10 9,Av 11 10 (.mv (.t 0)),Av 12 10 (.mv (.t 2)),Av 13 10 (.bin .leq (.t 11) (.t 12)),Ap 14 10 13,Am 15 14,Av 16 15 (.mv (.t 0)),Av 17 15 (.bin .rem (.t 16) (.c (.i .i64 2))),Av 18 15 (.bin .eql (.t 17) (.c (.i .i64 0))),Ap 19 15 18,Am 6 19]) .ret))
def L1o.r:List Rr:=[.tmp 6]
abbrev L1o.n:Nat:=20
def L1n.c (L1o L1d L08 L0m:FuncId):C :=(.seq (.reg [Au 3 (.box (.t 0)),Au 6 (.alloc [.nil]),Ac 7 0]) (.seq (.seq (.reg [Am 11 2,Au 12 (.call L1o [.t 11,(.c (.i .i64 32)),(.c (.i .i64 1024))]),Au 13 (.un .not (.t 12))]) (.ite (.t 13) (.seq (.reg [Au 14 (.build [.nil] []),As 1 6 14,Ac 7 1]) .ret) .skip)) (.seq (.reg [Ag 16 2 3,Am 17 1,Au 18 (.call L1d [.t 16,.t 17]),Am 15 18,Ax1 19 0 15,Ax1 20 1 15,Am 8 19,Am 9 20]) (.seq (.seq (.reg [Am 21 9,Ak .neq 22 21 0]) (.ite (.t 22) (.seq (.reg [Au 23 (.build [.nil] []),Am 24 9,As 1 6 23,Am 7 24]) .ret) .skip)) (.seq (.reg [Am 26 8,Au 27 (.call L08 [.t 26]),
 Am 25 27,Ax1 28 0 25,Ax1 29 1 25,Am 10 28,Am 9 29]) (.seq (.seq (.reg [Am 30 9,Ak .neq 31 30 0]) (.ite (.t 31) (.seq (.reg [Au 32 (.build [.nil] []),Am 33 9,As 1 6 32,Am 7 33]) .ret) .skip)) (.seq (.reg [Am 34 10,Am 35 2,Au 36 (.call L0m [.t 34,.t 35]),Ax1 37 0 36,Ax1 38 1 36,As 1 6 37,Am 7 38]) .ret)))))))
def L1n.r:List Rr:=[.cell 6 (some 1),.tmp 7]
abbrev L1n.n:Nat:=39
def Qoa (P:Program) (f:FuncId):Prop:=∀n lo hi:Int,0<=lo->CallIs P f [.i .i64 n,.i .i64 lo,.i .i64 hi] (.b (Yq n lo hi))
section
variable {P:Program} (hm:P.follows .mixedOrders=true)
include hm
theorem Q3s {f:FuncId} (hf:Q9 P f L1o.c L1o.r L1o.n):Qoa P f:=by
 intro n lo hi h0
 refine PureC.is (Q8 hm hf (qh rfl) ?_) rfl
 unfold L1o.c Yq
 by_cases h1:lo<=n
 ·by_cases h2:n<=hi
  ·have ht:n.tmod 2=n % 2:=jn (by omega)
   have w:=Q3 (z:=n % 2) (by omega) (by omega)
   by_cases h3:n % 2=0
   ·simp[go_sem,h1,h2,ht,h3,L1o.r]
   ·have hb:(n % 2 == 0)=false:=by simpa using h3
    simp[go_sem,h1,h2,ht,w,h3,hb,L1o.r]
  ·simp[go_sem,h1,h2,L1o.r]
 ·simp[go_sem,h1,L1o.r]
end
def Qdc (P:Program) (f:FuncId):Prop:=∀a b:List Rw,RgV a->RgV b->RgB a->RgB b->CallIs P f [rgV a,rgV b] (.b (decide (a=b)))
section
variable {P:Program} (hm:P.follows .mixedOrders=true)
include hm
theorem Q3y {f:FuncId} (hf:Q9 P f L0w.c L0w.r L0w.n):Qdc P f:=by
 intro a b ha hb ba bb
 have hal:=ha.len ba
 have hbl:=hb.len bb
 refine PureC.is (Q8 hm hf (qh rfl) ?_) rfl
 unfold L0w.c
 by_cases hlen:a.length=b.length
 case neg =>
  have hne:¬ a=b:=λh=>hlen (by rw[h])
  have hb1:((a.length:Int) == b.length)=false:=by simp;omega
  have hb2:((a.length:Int) != b.length)=true:=by simp;omega
  simp[go_sem,rgV,hb1,hb2,hne,hlen,L0w.r]
 simp[go_sem,rgV,hlen]
 refine Qj (α:=Nat) (λi=>i<=a.length/\a.take i=b.take i)
  (λi=>⟨[(2,.p 0 1 0 0),(3,.p 1 1 0 0),(5,.i .i64 i)],[.arr 1 1 [[rwL a]],.arr 1 1 [[rwL b]]]⟩)
  (λi=>a.length-i) 0 ⟨Nat.zero_le _,rfl⟩ ?_ ?_
 ·simp[go_sem,rwL]
 rintro i ⟨hi,hpre⟩
 by_cases hil:i=a.length
 ·subst hil
  have he:a=b:=by
   rw[qi,hlen,qi]at hpre
   exact hpre
  subst he
  simp[go_sem,rwL,L0w.r]
 have hlt:i<a.length:=by omega
 have hlt2:i<b.length:=by omega
 have hq:a[i]?=some a[i]:=q9 hlt
 have hr:b[i]?=some b[i]:=q9 hlt2
 have hal2:=(ha.rs _ (qb hq)).len (ba.rnb ha (qb hq))
 generalize a[i]=v at *
 generalize b[i]=w at *
 obtain⟨_,hq'⟩:=q8.1 hq
 obtain⟨_,hr'⟩:=q8.1 hr
 have hdiff:v≠w->¬ a=b:=λhvw he=>by
  rw[he,hr]at hq
  simp at hq
  exact hvw hq.symm
 by_cases hy:v.y=w.y
 case neg =>
  have hne:=hdiff λh=>hy (by rw[h])
  have hb1:(v.y != w.y)=true:=by simpa using hy
  simp (disch:=omega) [go_sem,rwL,hlt,hlt2,hq,hq',hr,hr',Rw.cs,hy,hb1,hne,Q3,L0w.r]
 by_cases hrl:v.rs.length=w.rs.length
 case neg =>
  have hne:=hdiff λh=>hrl (by rw[h])
  have hb1:((v.rs.length:Int) != w.rs.length)=true:=by simp;omega
  simp (disch:=omega) [go_sem,rwL,hlt,hlt2,hq,hq',hr,hr',Rw.cs,Qe,hy,hrl,hb1,hne,Q3,L0w.r]
 simp (disch:=omega) [go_sem,rwL,hlt,hlt2,hq,hq',hr,hr',Rw.cs,Qe,hy,hrl,Q3]
 refine Qj (α:=Nat) (λj=>j<=v.rs.length/\v.rs.take j=w.rs.take j)
  (λj=>⟨[(2,.p 0 1 0 0),(3,.p 1 1 0 0),(5,.i .i64 i),(6,.p 2 1 0 0),(7,.p 3 1 0 0),(8,.i .i64 j)],[.arr 1 1 [[rwL a]],.arr 1 1 [[rwL b]],.arr 1 2 [v.cs],.arr 1 2 [w.cs]]⟩)
  (λj=>v.rs.length-j) 0 ⟨Nat.zero_le _,rfl⟩ ?_ ?_
 ·simp[go_sem,rwL,Rw.cs,Qe,hy]
 rintro j ⟨hj,hpre2⟩
 by_cases hjl:j=v.rs.length
 ·subst hjl
  have he:v=w:=by
   rw[qi,hrl,qi]at hpre2
   cases v;cases w;simp_all
  subst he
  simp (disch:=omega) [go_sem,rwL,Rw.cs,Qe,Q3]
  exact⟨i+1,⟨by omega,by rw[Qf hq,Qf hr,hpre]⟩,by omega,by omega⟩
 have hjt:j<v.rs.length:=by omega
 have hjt2:j<w.rs.length:=by omega
 have hu:v.rs[j]?=some v.rs[j]:=q9 hjt
 have hx:w.rs[j]?=some w.rs[j]:=q9 hjt2
 have hdiff2:v.rs[j]≠w.rs[j]->¬ a=b:=λhne=>hdiff λh=>by
  subst h
  exact hne rfl
 generalize v.rs[j]=r at *
 generalize w.rs[j]=s at *
 obtain⟨_,hu'⟩:=q8.1 hu
 obtain⟨_,hx'⟩:=q8.1 hx
 by_cases hrs:r=s
 ·subst hrs
  simp (disch:=omega) [go_sem,rwL,Rw.cs,Rn.cs,Qe,hjt,hjt2,hu,hu',hx,hx',Q3]
  exact⟨j+1,⟨by omega,by rw[Qf hu,Qf hx,hpre2]⟩,by omega,by omega⟩
 ·have hne:=hdiff2 hrs
  have hor:¬ r.a=s.a∨¬ r.b=s.b:=by
   by_cases h1:r.a=s.a
   ·right;intro h2;apply hrs;cases r;cases s;simp_all
   ·exact .inl h1
  have hbo:(!r.a == s.a || !r.b == s.b)=true:=by
   rcases hor with h1 | h1<;>simp[h1]
  simp (disch:=omega) [go_sem,rwL,Rw.cs,Rn.cs,Qe,hjt,hjt2,hu,hu',hx,hx',hor,hbo,hne,Q3,L0w.r]
end
def L09.c:C :=(.seq (.reg [Au 2 (.box (.t 0)),Au 3 (.box (.t 1)),Ac 4 0]) (.seq (.blk 0 (.seq (.reg [Af 6 0 2,Al 7 6,Af 8 0 3,Al 9 8,Aj .lss 10 7 9,Am 11 10,Aw 12 11 (.fa 0 (.t 2)),Aw 13 11 (.ld none (.t 12)),Aw 14 11 (.fa 0 (.t 3)),Aw 15 11 (.ld none (.t 14)),Aw 16 11 (.bin .eql (.t 13) (.t 15)),Aw 17 11 (.mv (.t 16)),Av 18 17 (.fa 1 (.t 2)),Av 19 17 (.ld none (.t 18)),Av 20 17 (.fa 1 (.t 3)),Av 21 17 (.ld none (.t 20)),Av 22 17 (.bin .lss (.t 19) (.t 21)),Aw 23 11 (.pick (.t 17) (.t 22) (.c (.b false))),Ao 24 11 23,Am 5 24]) (.ite (.t 5) (.seq (.reg [Ac 4 (-1)]) .ret) (.seq (.reg [Ag 26 2 2,
 Ag 27 2 3,Au 28 (.eqa [1,1] false (.t 26) (.t 27)),Am 25 28]) (.ite (.t 25) (.seq (.reg [Ac 4 0]) .ret) .skip))))) (.seq (.reg [Ac 4 1]) .ret)))
def L09.r:List Rr:=[.tmp 4]
abbrev L09.n:Nat:=29
def L07.c:C :=(.seq (.reg [Ab 2 false]) (.seq (.reg [Au 8 (.mkm none),Am 3 8]) (.seq (.seq (.reg [Am 9 0,An 10 0 9,Ac 11 0]) (.blk 0 (.loop (.seq (.reg [Aj .lss 12 11 10]) (.seq (.ite (.t 12) .skip (.exit 0)) (.seq (.blk 1 (.seq (.reg [Ai 13 4 9 11,Ag 14 4 13,Au 5 (.alloc [(.i .i64 0),(.i .i64 0),(.i .i64 0),(.i .i64 0)]),As 4 5 14]) (.seq (.reg [Am 15 3,Af 16 0 5,Ag 17 2 16,⟨none,none,.eqa [1,1] false (.t 17) (.t 17)⟩,Au 18 (.lk [1,1] (.i .i64 0) false (.t 15) (.t 17)),Ad 19 18 1,Au 20 (.ment [1,1] (.i .i64 0) (.t 15) (.t 17)),Ax1 21 1 20,⟨none,none,.est (.t 15) (.t 21) (.t 19)⟩]) (.reg [Am 22 3,
 Af 23 2 5,Ag 24 2 23,⟨none,none,.eqa [1,1] false (.t 24) (.t 24)⟩,Au 25 (.lk [1,1] (.i .i64 0) false (.t 22) (.t 24)),Ak .sub 26 25 1,Au 27 (.ment [1,1] (.i .i64 0) (.t 22) (.t 24)),Ax1 28 1 27,⟨none,none,.est (.t 22) (.t 28) (.t 26)⟩])))) (.reg [Ad 29 11 1,Am 11 29]))))))) (.seq (.seq (.reg [Am 30 3,Au 31 (.mrng (.t 30))]) (.blk 2 (.loop (.seq (.reg [Au 32 (.mnx (.t 31)),Ax1 33 0 32]) (.seq (.ite (.t 33) .skip (.exit 2)) (.blk 3 (.seq (.reg [Au 34 (.men (.t 31)),Ax1 35 1 34,Am 7 35]) (.seq (.reg [Am 36 7,Ak .neq 37 36 0]) (.ite (.t 37) (.seq (.reg [Ab 2 false]) .ret) .skip))))))))) (.seq (.reg [
 Ab 2 true]) .ret)))))
def L07.r:List Rr:=[.tmp 2]
abbrev L07.n:Nat:=38
def L0b.c:C :=(.seq (.reg [Au 3 (.box (.t 1)),Au 4 (.alloc [(.i .i64 0),(.i .i64 0)])]) (.seq (.reg [Am 6 0,Ag 7 2 3,Au 8 (.lk [1,1] .nil false (.t 6) (.t 7)),Am 5 8]) (.seq (.seq (.reg [Am 9 5,An 10 0 9,Ak .eql 11 10 1]) (.ite (.t 11) (.reg [Am 12 0,Ag 13 2 3,⟨none,none,.mdel [1,1] (.t 12) (.t 13)⟩]) (.drw [Am 14 0,Ag 15 2 3,Am 16 5,Au 17 (.slc 2 (.t 16) (some (.c (.i .i64 1))) none),⟨none,none,.mup [1,1] (.t 14) (.t 15) (.t 17)⟩] []))) (.seq (.reg [Am 18 5,Au 19 (.ia 2 (.t 18) (.c (.i .i64 0))),Ag 20 2 19,As 2 4 20]) .ret))))
def L0b.r:List Rr:=[.cell 4 (some 2)]
abbrev L0b.n:Nat:=21
def L0a.c (L0b:FuncId):C :=(.seq (.reg [Au 3 (.box (.t 1)),Au 4 (.alloc [.nil])]) (.seq (.reg [Ag 7 2 3,Au 8 (.bso 2 1 [(.i .i64 0),(.i .i64 0)] [(0,(.t 7))]),Au 9 (.build [.nil] [(0,1,(.t 8))]),Au 5 (.alloc [.nil]),As 1 5 9]) (.seq (.seq (.reg [Am 10 0,Ag 11 2 3,Au 12 (.call L0b [.t 10,.t 11]),Au 6 (.alloc [(.i .i64 0),(.i .i64 0)]),As 2 6 12]) (.blk 0 (.loop (.seq (.seq (.reg [Ag 13 2 6,Ag 14 2 3,Au 15 (.eqa [1,1] true (.t 13) (.t 14)),Am 16 15,Av 17 16 (.mv (.t 0)),Av 18 16 (.ld (some 2) (.t 6)),Av 19 16 (.lk [1,1] .nil false (.t 17) (.t 18)),Av 20 16 (.len 0 (.t 19)),Av 21 16 (.bin .gtr (.t 20) (.c (.i .i64 0))),
 Ap 22 16 21]) (.ite (.t 22) .skip (.exit 0))) (.seq (.blk 1 (.reg [Af 26 0 5,Al 27 26,Ag 28 2 6,Au 29 (.bsi 2 1 [(.i .i64 0),(.i .i64 0)] [(0,(.t 28))]),Au 30 (.app 2 16 (.t 27) (.t 29)),Af 31 0 5,As 1 31 30])) (.seq (.seq (.reg [Ag 32 2 6]) (.reg [Au 6 (.alloc [(.i .i64 0),(.i .i64 0)]),As 2 6 32])) (.reg [Am 23 0,Ag 24 2 6,Au 25 (.call L0b [.t 23,.t 24]),As 2 6 25]))))))) (.seq (.reg [Ag 33 1 5,As 1 4 33]) .ret))))
def L0a.r:List Rr:=[.cell 4 (some 1)]
abbrev L0a.n:Nat:=34
def L08.c (L0l L07 slices_SortFunc_api_Pt_api_Pt L09 L0a:FuncId):C :=(.seq (.reg [Az 2,Ac 3 0]) (.seq (.seq (.reg [Am 15 0,An 16 0 15,Ak .gtr 17 16 8192]) (.ite (.t 17) (.seq (.reg [Az 2,Ac 3 2]) .ret) .skip)) (.seq (.seq (.reg [Am 18 0,An 19 0 18,Ac 20 0]) (.blk 0 (.loop (.seq (.reg [Aj .lss 21 20 19]) (.seq (.ite (.t 21) .skip (.exit 0)) (.seq (.blk 1 (.seq (.reg [Ai 22 4 18 20,Ag 23 4 22,Au 5 (.alloc [(.i .i64 0),(.i .i64 0),(.i .i64 0),(.i .i64 0)]),As 4 5 23]) (.seq (.reg [Af 24 0 5,Ag 25 2 24,Au 26 (.call L0l [.t 25]),Au 27 (.un .not (.t 26)),Am 28 27,Aw 29 28 (.fa 2 (.t 5)),Aw 30 28 (.ld (some 2) (.t 29)),
 Aw 31 28 (.call L0l [.t 30]),Aw 32 28 (.un .not (.t 31)),Ao 33 28 32]) (.ite (.t 33) (.seq (.reg [Az 2,Ac 3 8]) .ret) .skip)))) (.reg [Ad 34 20 1,Am 20 34]))))))) (.seq (.seq (.reg [Am 35 0,Au 36 (.call L07 [.t 35]),Au 37 (.un .not (.t 36))]) (.ite (.t 37) (.seq (.reg [Az 2,Ac 3 12]) .ret) .skip)) (.seq (.reg [Au 38 (.mkm none),Am 6 38]) (.seq (.reg [Az 7]) (.seq (.seq (.reg [Am 39 0,An 40 0 39,Ac 41 0]) (.blk 2 (.loop (.seq (.reg [Aj .lss 42 41 40]) (.seq (.ite (.t 42) .skip (.exit 2)) (.seq (.blk 3 (.seq (.reg [Ai 43 4 39 41,Ag 44 4 43,Au 9 (.alloc [(.i .i64 0),(.i .i64 0),(.i .i64 0),(.i .i64 0)]),
 As 4 9 44]) (.seq (.seq (.reg [Af 45 0 9,Ag 46 2 45,Af 47 2 9,Ag 48 2 47,Au 49 (.eqa [1,1] false (.t 46) (.t 48))]) (.ite (.t 49) (.exit 3) .skip)) (.seq (.seq (.reg [Am 50 6,Af 51 0 9,Ag 52 2 51,Au 53 (.lk [1,1] .nil false (.t 50) (.t 52)),An 54 0 53,Ak .eql 55 54 0]) (.ite (.t 55) (.reg [Am 56 7,Af 57 0 9,Ag 58 2 57,Au 59 (.bsi 2 1 [(.i .i64 0),(.i .i64 0)] [(0,(.t 58))]),Au 60 (.app 2 16 (.t 56) (.t 59)),Am 7 60]) .skip)) (.reg [Am 61 6,Af 62 0 9,Ag 63 2 62,Af 65 2 9,Ag 66 2 65,Au 67 (.bsi 2 1 [(.i .i64 0),(.i .i64 0)] [(0,(.t 66))]),Au 68 (.ment [1,1] .nil (.t 61) (.t 63)),Ax1 64 0 68,Au 69 (.app 2 16 (.t 64) (.t 67)),
 Ax1 70 1 68,⟨none,none,.est (.t 61) (.t 70) (.t 69)⟩]))))) (.reg [Ad 71 41 1,Am 41 71]))))))) (.seq (.reg [Am 72 7,Au 73 (.call slices_SortFunc_api_Pt_api_Pt [.t 72,(.c (.f L09 []))])]) (.seq (.seq (.reg [Am 74 7,An 75 0 74,Ac 76 0]) (.blk 4 (.loop (.seq (.reg [Aj .lss 77 76 75]) (.seq (.ite (.t 77) .skip (.exit 4)) (.seq (.blk 5 (.seq (.reg [Ai 78 2 74 76,Ag 79 2 78,Au 11 (.alloc [(.i .i64 0),(.i .i64 0)]),As 2 11 79]) (.reg [Am 80 6,Ag 81 2 11,Au 82 (.lk [1,1] .nil false (.t 80) (.t 81)),Au 83 (.call slices_SortFunc_api_Pt_api_Pt [.t 82,(.c (.f L09 []))])]))) (.reg [Ad 84 76 1,Am 76 84])))))))
 (.seq (.reg [Az 12]) (.seq (.seq (.reg [Am 85 7,An 86 0 85,Ac 87 0]) (.blk 6 (.loop (.seq (.reg [Aj .lss 88 87 86]) (.seq (.ite (.t 88) .skip (.exit 6)) (.seq (.blk 7 (.seq (.reg [Ai 89 2 85 87,Ag 90 2 89,Au 14 (.alloc [(.i .i64 0),(.i .i64 0)]),As 2 14 90]) (.blk 8 (.loop (.seq (.seq (.reg [Am 91 6,Ag 92 2 14,Au 93 (.lk [1,1] .nil false (.t 91) (.t 92)),An 94 0 93,Ak .gtr 95 94 0]) (.ite (.t 95) .skip (.exit 8))) (.blk 9 (.reg [Am 96 12,Am 97 6,Ag 98 2 14,Au 99 (.call L0a [.t 97,.t 98]),Au 100 (.bso 1 1 [.nil] [(0,(.t 99))]),Au 101 (.app 1 24 (.t 96) (.t 100)),Am 12 101]))))))) (.reg [Ad 102 87 1,
 Am 87 102]))))))) (.seq (.reg [Am 103 12,Am 2 103,Ac 3 0]) .ret))))))))))))
def L08.r:List Rr:=[.tmp 2,.tmp 3]
abbrev L08.n:Nat:=104
def E6 (es:List Eg) (p:P2):Int:=(es.countP (λe=>decide (e.1=p)):Int)-es.countP (λe=>decide (e.2=p))
def Qag (es:List Eg):Bool:=es.all λe=>decide (E6 es e.1=0) && decide (E6 es e.2=0)
theorem balB_iff {es:List Eg}:Qag es=true↔BalE es:=by
 unfold Qag
 rw[qj]
 constructor
 ·intro h p
  by_cases hp:(∃e∈es,e.1=p)∨∃e∈es,e.2=p
  ·have:E6 es p=0:=by
    rcases hp with⟨e,he,rfl⟩ | ⟨e,he,rfl⟩
    ·have:=h e he;simp only[Bool.and_eq_true,decide_eq_true_eq]at this;exact this.1
    ·have:=h e he;simp only[Bool.and_eq_true,decide_eq_true_eq]at this;exact this.2
   unfold E6 at this;omega
  ·have h1:es.countP (λe=>decide (e.1=p))=0:=List.countP_eq_zero.2 λe he=>by
    simp only[decide_eq_true_eq];exact λhh=>hp (.inl ⟨e,he,hh⟩)
   have h2:es.countP (λe=>decide (e.2=p))=0:=List.countP_eq_zero.2 λe he=>by
    simp only[decide_eq_true_eq];exact λhh=>hp (.inr ⟨e,he,hh⟩)
   rw[h1,h2]
 ·intro h e he
  have h1:=h e.1
  have h2:=h e.2
  simp only[Bool.and_eq_true,decide_eq_true_eq]
  unfold E6
  omega
def Qoi (P:Program) (f:FuncId):Prop:=∀l:List Sg4,l.length<=4096->CallIs P f [Y3 l] (.b (Qag (egs l)))
theorem Q1j (l:List Sg4):(egs l).length=l.length:=by simp[egs]
theorem Qhk (es:List Eg) (e:Eg) (p:P2):E6 (es++[e]) p=E6 es p+(if e.1=p then 1 else 0)-(if e.2=p then 1 else 0):=by
 unfold E6
 rw[List.countP_append,List.countP_append,List.countP_singleton,List.countP_singleton]
 by_cases h1:e.1=p<;>by_cases h2:e.2=p<;>simp[h1,h2]<;>omega
theorem Qes (es:List Eg) (p:P2):-(es.length:Int)<=E6 es p/\E6 es p<=es.length:=by
 unfold E6
 have h1:=List.countP_le_length (p:=λe:Eg=>decide (e.1=p)) (l:=es)
 have h2:=List.countP_le_length (p:=λe:Eg=>decide (e.2=p)) (l:=es)
 omega
theorem p2_iff {a b:P2}:a=b↔a.x=b.x/\a.y=b.y:=by cases a;cases b;simp
theorem Q8i (l:List Sg4) {k:Nat} {s:Sg4} (h:l[k]?=some s):egs (l.take (k+1))=egs (l.take k)++[s.eg]:=by
 unfold egs;rw[List.take_add_one,h];simp
def Qbd (l:List Sg4) (i:Nat):Sg4:=(l[i]?).getD Sg4.init
section
variable {α β:Type}
def HeldR (sz:Nat) (hd:β->List V) (en:α->List V) (b:Nat) (hx:List O) (ls:List (β × List α)) (cells:List (List V)):Prop :=
 cells.length=ls.length/\∀(i:Nat) (c:List V) (l:β × List α),cells[i]?=some c->ls[i]?=some l->∃j g,c=hd l.1++[.own (b+j) g 0 l.2.length]/\hx[j]?=some (.arr g sz (l.2.map en))
structure CellsD (hd:β->List V) (en:α->List V):Prop where
 h1:∀b h,(hd b).mapM (U3 h)=some (hd b)
 h2:∀b,∀x∈hd b,x.isD=true
 e1:∀a,∀x∈en a,x.isD=true
variable {sz:Nat} {hd:β->List V} {en:α->List V}
theorem HeldR.nil (b:Nat):HeldR sz hd en b [] [] []:=⟨rfl,by simp⟩
theorem HeldR.app {b:Nat} {hx:List O} {ls:List (β × List α)} {cells:List (List V)} (h:HeldR sz hd en b hx ls cells) (l:List O):HeldR sz hd en b (hx++l) ls cells :=
 ⟨h.1,λi c x h1 h2=>by obtain⟨j,g,h3,h4⟩:=h.2 i c x h1 h2;exact⟨j,g,h3,by rw[qd (q8.1 h4).1];exact h4⟩⟩
theorem HeldR.snoc {b:Nat} {hx:List O} {ls:List (β × List α)} {cells:List (List V)} (h:HeldR sz hd en b hx ls cells) {j g:Nat} {l:β × List α} (hj:hx[j]?=some (.arr g sz (l.2.map en))):HeldR sz hd en b hx (ls++[l]) (cells++[hd l.1++[.own (b+j) g 0 l.2.length]]):=by
 refine⟨by simp[h.1],λi c x h1 h2=>?_⟩
 by_cases hi:i<ls.length
 ·rw[qd (by rw[h.1];exact hi)]at h1
  rw[qd hi]at h2
  exact h.2 i c x h1 h2
 ·rw[qf (by rw[h.1];omega)]at h1
  rw[qf (by omega)]at h2
  have hi0:i-ls.length=0:=by
   have:=(q8.1 h2).1
   simp at this;omega
  rw[h.1,hi0]at h1
  rw[hi0]at h2
  simp at h1 h2
  subst h1;subst h2
  exact⟨j,g,rfl,hj⟩
theorem HeldR.cl (D:CellsD hd en) {b:Nat} {hx:List O} {ls:List (β × List α)} {cells:List (List V)} (h:HeldR sz hd en b hx ls cells) {n:Nat} (hn:b+hx.length<=n):∀el∈cells,∀x∈el,x.cl n=true:=by
 intro el hel x hx'
 obtain⟨i,hi⟩:=qq hel
 have hlt:=(q8.1 hi).1
 obtain⟨j,g,rfl,h4⟩:=h.2 i el _ hi (q9 (by rw[<- h.1];exact hlt))
 have:=(q8.1 h4).1
 rcases qg.1 hx' with hx' | hx'
 ·exact Kf n (D.h2 _ x hx')
 ·simp at hx';subst hx'
  simp[V.cl,V.cl1,V.cl0];omega
theorem Qea (D:CellsD hd en) (l:List α):∀el∈l.map en,∀x∈el,x.isD=true:=by
 intro el hel x hx
 obtain⟨a,_,rfl⟩:=qo.1 hel
 exact D.e1 a x hx
theorem Qc1 (D:CellsD hd en) (l:List α) (n:Nat):∀el∈l.map en,∀x∈el,x.cl n=true:=λel hel x hx=>Kf n (Qea D l el hel x hx)
def Qjh (sz:Nat) (hd:β->List V) (en:α->List V) (l:β × List α):List V:=hd l.1++[.l sz (l.2.map en)]
theorem HeldR.frz (D:CellsD hd en) {b:Nat} {base hx:List O} {ls:List (β × List α)} {cells:List (List V)} (h:HeldR sz hd en b hx ls cells) (hb:base.length=b):cells.mapM (λel=>el.mapM (U3 (base++hx)))=some (ls.map (Qjh sz hd en)):=by
 induction cells generalizing ls with
 | nil =>
   have:=h.1
   simp at this
   obtain rfl:=List.length_eq_zero_iff.1 this.symm
   rfl
 | cons c cells ih =>
   have hl:=h.1
   cases ls with
   | nil=>simp at hl
   | cons l ls =>
     have h0:=h.2 0 c l rfl rfl
     obtain⟨j,g,rfl,hj⟩:=h0
     have ht:HeldR sz hd en b hx ls cells:=⟨by simpa using hl,λi c x h1 h2=>h.2 (i+1) c x (by simpa using h1) (by simpa using h2)⟩
     have hg:(base++hx)[b+j]?=some (.arr g sz (l.2.map en)):=by rw[<- hb,Qc];exact hj
     have ha:(l.2.map en).all (λx=>x.all V.isD)=true:=by
      rw[qj]
      exact λel hel=>qj.2 (Qea D l.2 el hel)
     have hlen:(l.2.map en).length=l.2.length:=by simp
     have hfr:U3 (base++hx) (.own (b+j) g 0 l.2.length)=some (.l sz (l.2.map en)):=by
      have ht2:List.take l.2.length (l.2.map en)=l.2.map en:=qe (by omega)
      simp only[U3,Jd,hg]
      rw[List.drop_zero,ht2,if_pos ⟨trivial,by omega,ha⟩]
     have hrow:(hd l.1++[V.own (b+j) g 0 l.2.length]).mapM (U3 (base++hx))=some (Qjh sz hd en l):=by
      rw[List.mapM_append,D.h1]
      simp[List.mapM_cons,hfr,Qjh]
     rw[List.mapM_cons,hrow,ih ht]
     rfl
theorem Qlb (D:CellsD hd en) {b rz:Nat} {base hx:List O} {ls:List (β × List α)} {cells:List (List V)} (h:HeldR sz hd en b hx ls cells) (hb:base.length=b) :
  (if ls.length<=cells.length then Option.map (V.l rz) (List.mapM (λel=>List.mapM (U3 (base++hx)) el) (List.take ls.length cells)) else none)=some (.l rz (ls.map (Qjh sz hd en))):=by
 have h1:=h.frz D hb
 have ht:List.take ls.length cells=cells:=qe (by rw[h.1];exact Nat.le_refl _)
 simp only[ht,h1,h.1,Nat.le_refl,if_true,Option.map_some]
end
end Go.Abs
