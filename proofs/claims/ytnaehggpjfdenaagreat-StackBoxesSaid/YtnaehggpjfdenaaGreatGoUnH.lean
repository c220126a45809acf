/- Part of the library on which the proof stands: an abstract machine, its values and its soundness against the model; or what functions of the program do to such values. -/
import Derived.Test.YtnaehggpjfdenaaGreatGoSkC
import Derived.Test.YtnaehggpjfdenaaGreatGoSecD
import Derived.Test.YtnaehggpjfdenaaGreatGoUnG
import Derived.Test.YtnaehggpjfdenaaGreatGoTpD
set_option linter.unusedVariables false
set_option linter.unusedSimpArgs false
set_option maxHeartbeats 8000000
set_option maxRecDepth 20000
namespace Go.Abs
def bdO (l:List Rn) (i:Nat):O:=.arr 1 2 [[Qj l,.i .i64 i]]
def Qgq (P:Program) (f:FuncId):Prop:=∀(h:List O) (id:Nat) (l:List Rn) (i:Nat),l.length<=8192->i<=2*l.length->h[id]?=some (bdO l i)->ACall P f [.p id 1 0 0] h (λr h'=>r=.b (decide (i=2*l.length))/\h'=h)
def OddC (P:Program) (f:FuncId):Prop:=∀(h:List O) (id:Nat) (l:List Rn) (i:Nat),l.length<=8192->i<=2*l.length->h[id]?=some (bdO l i)->ACall P f [.p id 1 0 0] h (λr h'=>r=.b (decide (i % 2=1))/\h'=h)
def NxbC (P:Program) (f:FuncId):Prop:=∀(h:List O) (id:Nat) (l:List Rn) (i:Nat),l.length<=8192->i<=2*l.length->h[id]?=some (bdO l i)->ACall P f [.p id 1 0 0] h (λr h'=>r=.i .i64 (Zu l i)/\h'=h)
def Qpq (P:Program) (f:FuncId):Prop:=∀(h:List O) (id:Nat) (l:List Rn) (i:Nat) (x:Int),l.length<=8192->i<=2*l.length->h[id]?=some (bdO l i)->ACall P f [.p id 1 0 0,.i .i64 x] h (λr h'=>r=.t []/\h'=h.set id (bdO l (swN l i x)))
def Uf (P:Program) (f:FuncId):Prop:=∀l:List Rn,RnsV l->RnI l->CallIs P f [Qj l] (.b true)
def OrBC (P:Program) (f:FuncId):Prop:=Qq P f=true/\∀a b:Bool,CallIs P f [.b a,.b b] (.b (a || b))
def Qez (P:Program) (f:FuncId):Prop:=∀(g:FuncId),OrBC P g->∀a b U:List Rn,RnsV a->RnsV b->RnI a->RnI b->RnsV U->(∀x,Qf U x↔Qf a x∨Qf b x)->CallIs P f [Qj a,Qj b,.f g []] (Qj U)
def Q2h (P:Program) (f:FuncId):Prop:=∀a b U:List Rn,RnsV a->RnsV b->RnI a->RnI b->RnsV U->(∀x,Qf U x↔Qf a x∨Qf b x)->CallIs P f [Qj a,Qj b] (Qj U)
section
variable {P:Program} (hm:P.follows .mixedOrders=true)
include hm
theorem Q1c {f:FuncId} (hf:Q9 P f L17.c L17.r L17.n) (hcb:Qq P f=true):OrBC P f:=by
 refine⟨hcb,λa b=>?_⟩
 refine PureC.is (Q8 hm hf (qj rfl) ?_) rfl
 unfold L17.c
 cases a<;>cases b<;>simp[go_sem,L17.r]
theorem Q51 {f ff:FuncId} (hf:Q9 P f (L18.c ff) L18.r L18.n) (hff:Q9k P ff):Uf P f:=by
 intro l hl hb
 have hll:=hl.len hb
 refine PureC.is (Q8 hm hf (qj rfl) ?_) rfl
 unfold L18.c
 simp[go_sem,Qj]
 refine Qi (α:=Nat) (λi=>i<=l.length)
  (λi=>⟨[(0,Qj l),(5,Qj l),(6,.i .i64 l.length),(7,.i .i64 i)],[]⟩)
  (λi=>l.length-i) 0 (Nat.zero_le _) ?_ ?_
 ·simp[go_sem,Qj]
 intro i hi
 by_cases hil:i=l.length
 ·subst hil
  simp[go_sem,Qj,L18.r]
 have hlt:i<l.length:=by omega
 have hq:l[i]?=some l[i]:=qb hlt
 have h1:=hl.1 _ (qe hq)
 have h2:=hb _ (qe hq)
 have hprev:∀j,i=j+1->∃s,l[j]?=some s/\s.b<(l[i]).a:=λj hj=>by
  subst hj
  exact⟨l[j],qb (by omega),j6.1 hl.2 j (j+1) (by omega) hlt (by omega)⟩
 generalize l[i]=r at *
 obtain⟨_,hq'⟩:=qa.1 hq
 have hcall:=hff r (by omega)
 simp only[Rn.cs]at hcall
 by_cases hi0:i=0
 ·subst hi0
  simp (disch:=omega) [go_sem,Qj,hlt,hq,hq',Rn.cs,show ¬ r.b<=r.a by omega,Q3]
  refine Qn hcall ?_
  simp (disch:=omega) [go_sem,Qj,hlt,hq,hq',Rn.cs,show ¬ r.b<=r.a by omega,Q3]
  exact⟨1,by omega,by omega,by omega⟩
 ·obtain⟨j,rfl⟩:∃j,i=j+1:=⟨i-1,by omega⟩
  obtain⟨s,hs,hsr⟩:=hprev j rfl
  obtain⟨hjl,hs'⟩:=qa.1 hs
  have hlz:(j:Int)+1<(l.length:Int):=by omega
  simp (disch:=omega) [go_sem,Qj,hlt,hlz,hjl,hq,hq',hs,hs',Rn.cs,show ¬ r.b<=r.a by omega,show ¬ r.a<=s.b by omega,Q3]
  refine⟨by omega,Qn hcall ?_⟩
  simp (disch:=omega) [go_sem,Qj,hlt,hlz,hjl,hq,hq',hs,hs',Rn.cs,show ¬ r.b<=r.a by omega,show ¬ r.a<=s.b by omega,Q3]
  exact⟨j+2,by omega,by omega,by omega⟩
theorem Q7n {f:FuncId} (hf:Q9 P f L1b.c L1b.r L1b.n):Qgq P f:=by
 intro h id l i hl hi hid
 refine U9 hm hf (qj rfl) ?_
 unfold L1b.c
 have hb:(((i:Nat):Int) == 2*(l.length:Int))=decide (i=2*l.length):=by
  by_cases h1:i=2*l.length
  ·simp[h1]
  ·simp[h1];omega
 simp (disch:=omega) [go_sem,hid,bdO,Qj,Q3,hb,L1b.r]
theorem Q35 {f:FuncId} (hf:Q9 P f L19.c L19.r L19.n):OddC P f:=by
 intro h id l i hl hi hid
 refine U9 hm hf (qj rfl) ?_
 unfold L19.c
 have ht:((i:Nat):Int).tmod 2=((i % 2:Nat):Int):=by rw[jn (by omega)];simp
 have w:=Q3 (z:=((i % 2:Nat):Int)) (by omega) (by omega)
 have hb:((((i % 2:Nat):Int)) == 1)=decide (i % 2=1):=by
  by_cases h1:i % 2=1
  ·simp[h1]
  ·simp[h1];omega
 have hb2:((i:Int) % 2 == 1)=decide (i % 2=1):=by rw[<- hb];simp
 simp (disch:=omega) [go_sem,hid,bdO,Qj,ht,w,hb2,L19.r]
theorem Q7o {f fo fi:FuncId} (hf:Q9 P f (L1a.c fo fi) L1a.r L1a.n) (ho:Qgq P fo) (hin:OddC P fi):NxbC P f:=by
 intro h id l i hl hi hid
 refine U9 hm hf (qj rfl) ?_
 unfold L1a.c
 have hoc:=ho h id l i hl hi hid
 have hic:=hin h id l i hl hi hid
 simp[go_sem]
 refine Qr hoc ?_
 by_cases h1:i=2*l.length
 ·have e:Zu l i=1048577:=by rw[h1];exact Ua l
  rw[e]
  simp[go_sem,h1,L1a.r]
 ·simp[go_sem,h1]
  refine Qr hic ?_
  have hd:i / 2<l.length:=by omega
  have hq:((i:Nat):Int).tdiv 2=((i / 2:Nat):Int):=by rw[Int.tdiv_eq_ediv_of_nonneg (by omega)];simp
  have w:=Q3 (z:=((i / 2:Nat):Int)) (by omega) (by omega)
  have hr:l[i / 2]?=some l[i / 2]:=qb hd
  have e:Zu l i=if i % 2=1 then (l[i / 2]).b else (l[i / 2]).a:=by unfold Zu;rw[hr];rfl
  rw[e]
  generalize l[i / 2]=r at *
  obtain⟨_,hr'⟩:=qa.1 hr
  generalize i / 2=k at *
  by_cases h2:i % 2=1
  ·simp (disch:=omega) [go_sem,h2,hid,bdO,Qj,hq,w,hd,hr,hr',Rn.cs,Q3,L1a.r]
  ·simp (disch:=omega) [go_sem,h2,hid,bdO,Qj,hq,w,hd,hr,hr',Rn.cs,Q3,L1a.r]
theorem Q7m {f fn:FuncId} (hf:Q9 P f (L1c.c fn) L1c.r L1c.n) (hn:NxbC P fn):Qpq P f:=by
 intro h id l i x hl hi hid
 refine U9 hm hf (qj rfl) ?_
 unfold L1c.c
 have hnc:=hn h id l i hl hi hid
 obtain⟨hlt,hid'⟩:=qa.1 hid
 simp[go_sem]
 refine Qr hnc ?_
 unfold swN
 by_cases h1:Zu l i=x
 ·rw[if_pos h1]
  simp (disch:=omega) [go_sem,h1,hid,hid',hlt,bdO,Qj,Q3,L1c.r]
 ·rw[if_neg h1]
  have hb:(Zu l i == x)=false:=by simpa using h1
  have hse:h.set id (bdO l i)=h:=Z2 hid
  rw[hse]
  simp (disch:=omega) [go_sem,h1,hb,L1c.r]
theorem Q50 {f fv fo fn fp fi:FuncId} (hf:Q9 P f (L1f.c fv fo fn fp fi) L1f.r L1f.n)
  (hv:Uf P fv) (ho:Qgq P fo) (hn:NxbC P fn) (hp:Qpq P fp) (hin:OddC P fi):Qez P f:=by
 rintro g ⟨hcb,hg⟩ a b U va vb ia ib hU hUx
 have hal:=va.len ia
 have hbl:=vb.len ib
 refine PureC.is (Q8 hm hf (qj rfl) ?_) rfl
 unfold L1f.c
 simp[go_sem]
 refine Q5 (hv a va ia) ?_
 simp[go_sem]
 refine Q5 (hv b vb ib) ?_
 simp[go_sem,Qj]
 refine Z0 [.t 9 2] (α:=Nat × Nat × Int × List Rn × Nat) (λp=>SwI a b p.1 p.2.1 p.2.2.1 p.2.2.2.1)
  (λp=>⟨[(2,.f g []),(7,.p 0 1 0 0),(8,.p 1 1 0 0),(9,.own 2 (p.2.2.2.2+1) 0 p.2.2.2.1.length),(10,.b (Un p.1 p.2.1))],[.arr 1 2 [[Qj a,.i .i64 p.1]],.arr 1 2 [[Qj b,.i .i64 p.2.1]],.arr (p.2.2.2.2+1) 2 (p.2.2.2.1.map Rn.cs)]⟩)
  (λp=>2*a.length+2*b.length-p.1-p.2.1) (0,0,-5000,[],0) (SwI.start va vb ia ib) ?_ ?_
 ·simp[go_sem,Qj,Un]
 rintro⟨i,j,X,out,gn⟩ hI
 simp only at hI ⊢
 have hil:=hI.pa.le
 have hjl:=hI.pb.le
 have hol:=hI.len
 have k1:=ho [.arr 1 2 [[Qj a,.i .i64 i]],.arr 1 2 [[Qj b,.i .i64 j]],.arr (gn+1) 2 (out.map Rn.cs)] 0 a i hal hil rfl
 have k2:=ho [.arr 1 2 [[Qj a,.i .i64 i]],.arr 1 2 [[Qj b,.i .i64 j]],.arr (gn+1) 2 (out.map Rn.cs)] 1 b j hbl hjl rfl
 by_cases hend:i=2*a.length/\j=2*b.length
 ·obtain⟨h1,h2⟩:=hend
  have hUe:out=U:=by
   rw[h1,h2]at hI
   exact hI.done va vb hU hUx
  subst hUe
  simp[go_sem]
  refine Qr k1 ?_
  simp[go_sem,h1]
  rw[h1]at k2
  refine Qr k2 ?_
  simp[go_sem,h2,L1f.r]
  rw[if_pos (Bv out)];rfl
 have hij:i<2*a.length∨j<2*b.length:=by omega
 obtain⟨x,hx⟩:∃x,x=min (Zu a i) (Zu b j):=⟨_,rfl⟩
 have hst:=hI.step va vb ia ib hx hij
 obtain⟨i',hi'⟩:∃i',swN a i x=i':=⟨_,rfl⟩
 obtain⟨j',hj'⟩:∃j',swN b j x=j':=⟨_,rfl⟩
 have n1:=hn [.arr 1 2 [[Qj a,.i .i64 i]],.arr 1 2 [[Qj b,.i .i64 j]],.arr (gn+1) 2 (out.map Rn.cs)] 0 a i hal hil rfl
 have n2:=hn [.arr 1 2 [[Qj a,.i .i64 i]],.arr 1 2 [[Qj b,.i .i64 j]],.arr (gn+1) 2 (out.map Rn.cs)] 1 b j hbl hjl rfl
 have p1:=hp [.arr 1 2 [[Qj a,.i .i64 i]],.arr 1 2 [[Qj b,.i .i64 j]],.arr (gn+1) 2 (out.map Rn.cs)] 0 a i x hal hil rfl
 have p2:=hp [.arr 1 2 [[Qj a,.i .i64 i']],.arr 1 2 [[Qj b,.i .i64 j]],.arr (gn+1) 2 (out.map Rn.cs)] 1 b j x hbl hjl rfl
 rw[hi']at p1
 rw[hj']at p2
 rw[hi',hj']at hst
 have hil':=hst.pa.le
 have hjl':=hst.pb.le
 have q1:=hin [.arr 1 2 [[Qj a,.i .i64 i']],.arr 1 2 [[Qj b,.i .i64 j']],.arr (gn+1) 2 (out.map Rn.cs)] 0 a i' hal hil' rfl
 have q2:=hin [.arr 1 2 [[Qj a,.i .i64 i']],.arr 1 2 [[Qj b,.i .i64 j']],.arr (gn+1) 2 (out.map Rn.cs)] 1 b j' hbl hjl' rfl
 have hgc:=hg (decide (i' % 2=1)) (decide (j' % 2=1))
 rw[show (decide (i' % 2=1) || decide (j' % 2=1))=Un i' j' from rfl]at hgc
 have hmeas:i+j+1<=i'+j':=by
  have h3:Zu a i=x∨Zu b j=x:=by omega
  rw[<- hi',<- hj']
  unfold swN
  rcases h3 with h3 | h3
  ·rw[if_pos h3];split<;>omega
  ·rw[if_pos h3];split<;>omega
 have hop:=hI.op
 generalize Zu a i=ba at *
 generalize Zu b j=bb at *
 have hmn:(if bb<ba then bb else ba)=x:=by rw[hx];split<;>omega
 have hmn2:(if ba<=bb then ba else bb)=x:=by rw[hx];split<;>omega
 rcases (show i≠2*a.length∨(i=2*a.length/\j≠2*b.length) by omega) with h1 | ⟨h1,h2⟩
 case' inl =>
  rw[decide_eq_false h1]at k1
  simp[go_sem]
  refine Qr k1 ?_
  simp[go_sem]
 case' inr =>
  rw[decide_eq_true h1]at k1
  rw[decide_eq_false h2]at k2
  simp[go_sem]
  refine Qr k1 ?_
  simp[go_sem]
  refine Qr k2 ?_
  simp[go_sem]
 all_goals
  refine Qr n1 ?_
  simp[go_sem]
  refine Qr n2 ?_
  simp[go_sem,<- hx,hmn,hmn2]
  refine Qr p1 ?_
  simp[go_sem,bdO]
  refine Qr p2 ?_
  simp[go_sem,bdO]
  refine Qr q1 ?_
  simp[go_sem]
  refine Qr q2 ?_
  simp[go_sem]
  refine⟨hcb,Q5 hgc ?_⟩
  obtain⟨was,hwas⟩:∃w,Un i j=w:=⟨_,rfl⟩
  obtain⟨now,hnow⟩:∃w,Un i' j'=w:=⟨_,rfl⟩
  rw[hwas,hnow]at hst
  rw[hwas]at hop
  have htk:List.take out.length (out.map Rn.cs)=out.map Rn.cs:=qg (by simp)
  cases was<;>cases now
  ·simp (disch:=omega) [go_sem,hwas,hnow,Q3]
   exact⟨i',j',x,out,hst,by omega,gn,⟨⟨rfl,rfl⟩,hnow⟩,⟨rfl,rfl⟩,⟨rfl,rfl⟩,⟨rfl,rfl⟩,Qap _ _⟩
  ·simp (disch:=omega) [go_sem,hwas,hnow,htk,Q3]
   refine⟨⟨by omega,by omega⟩,i',j',x,out++[⟨x,0⟩],hst,by omega,gn+1,⟨⟨rfl,by simp⟩,hnow⟩,⟨rfl,rfl⟩,⟨rfl,rfl⟩,⟨rfl,by simp[Rn.cs]⟩,Qap _ _⟩
  ·obtain⟨o,f0,ho1,_⟩:=hop rfl
   subst ho1
   have hog:∀x:List V,(List.map Rn.cs o++[x])[o.length]?=some x:=λx=>by
    have:=qh (l₁:=List.map Rn.cs o) (l₂:=[x]) (i:=o.length) (by simp)
    rw[this];simp
   have hos:∀x y:List V,(List.map Rn.cs o++[x]).set o.length y=List.map Rn.cs o++[y]:=λx y=>by
    rw[jl _ _ (by simp)];simp
   have hou:Ur x true false (o++[⟨f0,0⟩])=o++[⟨f0,x⟩]:=by simp[Ur]
   rw[hou]at hst
   simp at hol
   simp (disch:=omega) [go_sem,hwas,hnow,hog,hos,Rn.cs,Q3]
   exact⟨i',j',x,o++[⟨f0,x⟩],hst,by omega,gn,⟨⟨rfl,by simp⟩,hnow⟩,⟨rfl,rfl⟩,⟨rfl,rfl⟩,rfl,by simp[Rn.cs]⟩
  ·simp (disch:=omega) [go_sem,hwas,hnow,Q3]
   exact⟨i',j',x,out,hst,by omega,gn,⟨⟨rfl,rfl⟩,hnow⟩,⟨rfl,rfl⟩,⟨rfl,rfl⟩,⟨rfl,rfl⟩,Qap _ _⟩
theorem Q52 {f fs fg:FuncId} (hf:Q9 P f (L16.c fs fg) L16.r L16.n) (hs:Qez P fs) (hg:OrBC P fg):Q2h P f:=by
 intro a b U va vb ia ib hU hUx
 have h:=hs fg hg a b U va vb ia ib hU hUx
 refine PureC.is (Q8 hm hf (qj rfl) ?_) rfl
 unfold L16.c
 simp[go_sem]
 refine Q5 h ?_
 simp[go_sem,Qj,L16.r]
end
theorem Q9u {n:Int} (h1:0<=n) (h2:n<18446744073709551616):IntKind.u64.wrap n=n:=by
 show n % 18446744073709551616=n
 omega
def OkCC (P:Program) (f:FuncId):Prop:=∀x:Int,CallIs P f [.i .i64 x] (.b (decide (-4096<=x) && decide (x<4096)))
def Q2i (P:Program) (f:FuncId):Prop:=Qq P f=true/\∀(w:Rw) (y:Int),CallIs P f [.a w.cs,.i .i64 y] (.i .i64 (Eu w.y y))
structure IdxR (g:List Rw) (y:Int) (n:Nat):Prop where
 le:n<=g.length
 lo:∀(k:Nat) (w:Rw),g[k]?=some w->k<n->w.y<y
 hi:∀(k:Nat) (w:Rw),g[k]?=some w->n<=k->y<=w.y
theorem IdxR.ex:∀{g:List Rw},RgV g->∀y:Int,∃n,IdxR g y n
 | [],_,y=>⟨0,by simp,by simp,by simp⟩
 | w::g,hg,y=>by
   have hg2:RgV g:=⟨λu hu=>hg.rs u (by simp[hu]),λu hu=>hg.ne u (by simp[hu]),(jb.1 hg.asc).2⟩
   have hlt:=(jb.1 hg.asc).1
   by_cases h:w.y<y
   ·obtain⟨n,h1,h2,h3⟩:=IdxR.ex hg2 y
    refine⟨n+1,by simp;omega,λk v hk hkn=>?_,λk v hk hkn=>?_⟩
    ·cases k with
     | zero=>simp at hk;subst hk;exact h
     | succ k=>exact h2 k v (by simpa using hk) (by omega)
    ·cases k with
     | zero=>omega
     | succ k=>exact h3 k v (by simpa using hk) (by omega)
   ·refine⟨0,by omega,by omega,λk v hk _=>?_⟩
    cases k with
    | zero=>simp at hk;subst hk;omega
    | succ k =>
      have:=hlt v (qe (i:=k) (by simpa using hk))
      omega
def BsC (P:Program) (f:FuncId):Prop:=∀fg,Q2i P fg->∀(g:List Rw) (y:Int) (n:Nat),g.length<=8192->IdxR g y n->CallIs P f [rwL g,.i .i64 y,.f fg []] (.t [.i .i64 n,.b (decide (∃w,g[n]?=some w/\w.y=y))])
def Qpj (P:Program) (f:FuncId):Prop:=∀(g:List Rw) (y:Int),RgV g->RgB g->CallIs P f [rgV g,.i .i64 y] (Qj (Xs g y))
def Q9q (P:Program) (f:FuncId):Prop:=∀l:List Rn,l≠[]->l.length<=8192->CallIs P f [Qj l] (Qj l)
theorem IdxR.row {g:List Rw} (hg:RgV g) {y:Int} {n:Nat} (h:IdxR g y n):(∀w,g[n]?=some w->w.y=y->Xs g y=w.rs)/\((¬ ∃w,g[n]?=some w/\w.y=y)->Xs g y=[]):=by
 constructor
 ·intro w hw he
  subst he
  exact Bt hg (qe hw)
 ·intro hn
  refine Bu λw hw he=>?_
  obtain⟨k,hk⟩:=qt hw
  by_cases h1:k<n
  ·have:=h.lo k w hk h1;omega
  ·by_cases h2:k=n
   ·subst h2;exact hn ⟨w,hk,he⟩
   ·have hkl:=(qa.1 hk).1
    have hq:g[n]?=some g[n]:=qb (by omega)
    have h3:=h.hi n _ hq (Nat.le_refl _)
    have h4:=j6.1 hg.asc n k (by omega) hkl (by omega)
    rw[(qa.1 hk).2]at h4
    omega
section
variable {P:Program} (hm:P.follows .mixedOrders=true)
include hm
theorem Q7u {f:FuncId} (hf:Q9 P f L0z.c L0z.r L0z.n):OkCC P f:=by
 intro x
 refine PureC.is (Q8 hm hf (qj rfl) ?_) rfl
 unfold L0z.c
 by_cases h1:-4096<=x<;>by_cases h2:x<4096<;>simp[go_sem,h1,h2,L0z.r]
theorem Q1e {f fc:FuncId} (hf:Q9 P f (L11.c fc) L11.r L11.n) (hc:CmpC P fc) (hcb:Qq P f=true):Q2i P f:=by
 refine⟨hcb,λw y=>?_⟩
 have h:=hc w.y y
 refine PureC.is (Q8 hm hf (qj rfl) ?_) rfl
 unfold L11.c
 simp[go_sem,Rw.cs]
 refine Q5 h ?_
 simp[go_sem,L11.r]
theorem Bo {f:FuncId} (hf:Q9 P f L1q.c L1q.r L1q.n):Q9q P f:=by
 intro l hl hll
 refine PureC.is (Q8 hm hf (qj rfl) ?_) rfl
 unfold L1q.c
 obtain⟨r,k,rfl⟩:∃r k,l=r::k:=by
  cases l with
  | nil=>exact absurd rfl hl
  | cons r k=>exact⟨r,k,rfl⟩
 simp only[List.length_cons]at hll
 have hd:=Bv (r::k)
 have ht:List.take (k.length+1) (r.cs::k.map Rn.cs)=r.cs::k.map Rn.cs:=qg (by simp)
 simp (disch:=omega) [go_sem,Qj,ht,L1q.r]
 refine⟨⟨by omega,by omega⟩,?_⟩
 rw[if_pos ⟨hd r (by simp),λx hx=>hd x (by simp[hx])⟩];rfl
theorem Jt {f:FuncId} (hf:Q9 P f L1p.c L1p.r L1p.n):BsC P f:=by
 rintro fg ⟨hcb,hcmp⟩ g y n hgl hn
 refine PureC.is (Q8 hm hf (qj rfl) ?_) rfl
 unfold L1p.c
 simp[go_sem,rwL]
 refine Qi (α:=Nat × Nat) (λp=>p.1<=n/\n<=p.2/\p.2<=g.length)
  (λp=>⟨[(0,rwL g),(1,.i .i64 y),(2,.f fg []),(8,.i .i64 g.length),(9,.i .i64 p.1),(10,.i .i64 p.2)],[]⟩)
  (λp=>p.2-p.1) (0,g.length) ⟨Nat.zero_le _,hn.le,Nat.le_refl _⟩ ?_ ?_
 ·simp[go_sem,rwL]
 rintro⟨i,j⟩ ⟨h1,h2,h3⟩
 simp only at h1 h2 h3 ⊢
 by_cases hij:i<j
 ·obtain⟨q,hq⟩:∃q,q=(i+j) / 2:=⟨_,rfl⟩
  have hql:q<g.length:=by omega
  have hw:g[q]?=some g[q]:=qb hql
  have w1:=Q9u (n:=(i:Int)+j) (by omega) (by omega)
  have hlo:=hn.lo q _ hw
  have hhi:=hn.hi q _ hw
  have hcw:=hcmp g[q] y
  generalize g[q]=w at *
  obtain⟨_,hw'⟩:=qa.1 hw
  have hfd:((i:Int)+j).fdiv 2=(q:Int):=by rw[Int.fdiv_eq_ediv_of_nonneg _ (by omega)];omega
  have w2:=Q3 (z:=(q:Int)) (by omega) (by omega)
  have hcn:Eu w.y y<0↔w.y<y:=by have:=cmpI_lt w.y y;simpa using this
  generalize Eu w.y y=c at *
  simp only[Rw.cs]at hcw
  simp (disch:=omega) [go_sem,rwL,hij,w1,w2,hfd,hql,hw,hw',Rw.cs,Q3]
  refine⟨hcb,Q5 hcw ?_⟩
  by_cases hlt:w.y<y
  ·have hqn:q<n:=j9 λhh=>by have:=hhi (by omega);omega
   simp (disch:=omega) [go_sem,rwL,hcn,hlt,Q3]
   exact⟨q+1,j,⟨by omega,by omega,by omega⟩,by omega,by omega,rfl⟩
  ·have hqn:n<=q:=j9 λhh=>by have:=hlo (by omega);omega
   simp (disch:=omega) [go_sem,rwL,hcn,hlt,Q3]
   exact⟨i,q,⟨by omega,by omega,by omega⟩,by omega,rfl,rfl⟩
 ·obtain rfl:i=n:=by omega
  by_cases hil:i<g.length
  ·have hw:g[i]?=some g[i]:=qb hil
   have hcw:=hcmp g[i] y
   generalize g[i]=w at *
   obtain⟨_,hw'⟩:=qa.1 hw
   have he:(Eu w.y y == 0)=decide (w.y=y):=by
    have h1:(Eu w.y y=0)↔w.y=y:=by
     unfold Eu
     split
     ·omega
     ·split<;>omega
    by_cases h2:w.y=y
    ·rw[decide_eq_true h2,h1.2 h2];rfl
    ·rw[decide_eq_false h2]
     simpa using λhh=>h2 (h1.1 hh)
   rw[hw]
   simp only[Rw.cs]at hcw
   simp (disch:=omega) [go_sem,rwL,hij,hil,hw,hw',Rw.cs,Q3]
   refine⟨hcb,Q5 hcw ?_⟩
   simp[go_sem,he,L1p.r]
  ·have hn0:g[i]?=none:=qm (by omega)
   rw[hn0]
   simp (disch:=omega) [go_sem,rwL,hij,hil,L1p.r]
theorem Q53 {f fb fg:FuncId} (hf:Q9 P f (L10.c fb fg) L10.r L10.n) (hb:BsC P fb) (hg:Q2i P fg):Qpj P f:=by
 intro g y hv hbd
 obtain⟨n,hn⟩:=IdxR.ex hv y
 have hbc:=hb fg hg g y n (hv.len hbd) hn
 obtain⟨h1,h2⟩:=hn.row hv
 by_cases hex:∃w,g[n]?=some w/\w.y=y
 ·rw[decide_eq_true hex]at hbc
  obtain⟨w,hw,hwy⟩:=hex
  rw[h1 w hw hwy]
  obtain⟨hnl,hw'⟩:=qa.1 hw
  refine PureC.is (Q8 hm hf (qj rfl) ?_) rfl
  unfold L10.c
  simp[go_sem,rgV]
  refine Q5 hbc ?_
  simp[go_sem,hnl,hw,hw',Rw.cs,Qj,L10.r]
 ·rw[decide_eq_false hex]at hbc
  rw[h2 hex]
  refine CallIs.res (r:=.nil) ?_ (.inl (.inl (Le0.nil 2)))
  refine PureC.is (Q8 hm hf (qj rfl) ?_) rfl
  unfold L10.c
  simp[go_sem,rgV]
  refine Q5 hbc ?_
  simp[go_sem,L10.r]
theorem Q1f {f fo fr:FuncId} (hf:Q9 P f (L0x.c fo fr) L0x.r L0x.n) (ho:OkCC P fo) (hr:Uf P fr):Q9f P f:=by
 intro g hg hb
 have hll:=hg.len hb
 refine PureC.is (Q8 hm hf (qj rfl) ?_) rfl
 unfold L0x.c
 simp[go_sem,rgV]
 refine Qi (α:=Nat) (λi=>i<=g.length)
  (λi=>⟨[(1,.p 0 1 0 0),(6,rwL g),(7,.i .i64 g.length),(8,.i .i64 i)],[.arr 1 1 [[rwL g]]]⟩)
  (λi=>g.length-i) 0 (Nat.zero_le _) ?_ ?_
 ·simp[go_sem,rwL]
 intro i hi
 by_cases hil:i=g.length
 ·subst hil
  simp[go_sem,rwL,L0x.r]
 have hlt:i<g.length:=by omega
 have hq:g[i]?=some g[i]:=qb hlt
 have hy:=hb.yb hg (qe hq)
 have hrs:=hg.rs _ (qe hq)
 have hrb:=hb.rnb hg (qe hq)
 have hne:=hg.ne _ (qe hq)
 have hvc:=hr _ hrs hrb
 have hprev:∀j,i=j+1->∃s,g[j]?=some s/\s.y<(g[i]).y:=λj hj=>by
  subst hj
  exact⟨g[j],qb (by omega),j6.1 hg.asc j (j+1) (by omega) hlt (by omega)⟩
 have ho1:=ho (g[i]).y
 rw[show (decide (-4096<=(g[i]).y) && decide ((g[i]).y<4096))=true by simp;omega]at ho1
 generalize g[i]=w at *
 obtain⟨_,hq'⟩:=qa.1 hq
 obtain⟨y,rs⟩:=w
 simp only at hy hrs hrb hne hvc hprev ho1
 obtain⟨r0,hr0⟩:∃r,rs[0]?=some r:=by cases rs with | nil=>exact absurd rfl hne | cons a b=>exact⟨a,rfl⟩
 obtain⟨l,hl⟩:∃l,rs.length=l+1:=⟨rs.length-1,by have:=List.length_pos_iff.2 hne;omega⟩
 obtain⟨r1,hr1⟩:∃r,rs[l]?=some r:=⟨rs[l]'(by omega),qb (by omega)⟩
 have hlb:=hrs.len hrb
 have e0:=hrb r0 (qe hr0)
 have e1:=hrb r1 (qe hr1)
 have f0:=hrs.1 r0 (qe hr0)
 have f1:=hrs.1 r1 (qe hr1)
 obtain⟨_,hr0'⟩:=qa.1 hr0
 obtain⟨_,hr1'⟩:=qa.1 hr1
 have o0:=ho r0.a
 rw[show (decide (-4096<=r0.a) && decide (r0.a<4096))=true by simp;omega]at o0
 have o1:=ho (r1.b-1)
 rw[show (decide (-4096<=r1.b-1) && decide (r1.b-1<4096))=true by simp;omega]at o1
 have hl0:0<rs.length:=by omega
 have hlf:((rs.length:Int) == 0)=false:=by simp;omega
 have hlf2:((l:Int)+1 == 0)=false:=by simp;omega
 simp only[Qj]at hvc
 by_cases hi0:i=0
 case' pos =>
  subst hi0
  simp (disch:=omega) [go_sem,rwL,hlt,hq,hq',Rw.cs,Qj,Q3]
  refine Qn ho1 ?_
  simp (disch:=omega) [go_sem,rwL,hlt,hq,hq',Rw.cs,Qj,hl,hlf2,Q3]
 case' neg =>
  obtain⟨j,rfl⟩:∃j,i=j+1:=⟨i-1,by omega⟩
  obtain⟨s,hs,hsr⟩:=hprev j rfl
  obtain⟨hjl,hs'⟩:=qa.1 hs
  have hlz:(j:Int)+1<(g.length:Int):=by omega
  have hz0:(0:Int)<=(j:Int)+1:=by omega
  simp (disch:=omega) [go_sem,rwL,hlt,hlz,hjl,hz0,hq,hq',hs,hs',Rw.cs,Qj,Q3]
  refine Qn ho1 ?_
  simp (disch:=omega) [go_sem,rwL,hlt,hlz,hjl,hz0,hq,hq',hs,hs',Rw.cs,Qj,hl,hlf2,show ¬ y<=s.y by omega,Q3]
 all_goals
  refine Qn hvc ?_
  simp (disch:=omega) [go_sem,Rn.cs,Qj,hl,hlf2,hl0,hr0,hr0',Q3]
  refine Q5 o0 ?_
  simp (disch:=omega) [go_sem,Rn.cs,Qj,hl,hlf2,hl0,hr1,hr1',Q3]
  refine Q5 o1 ?_
  simp (disch:=omega) [go_sem,Q3]
 case' pos=>exact⟨1,by omega,by omega,by omega⟩
 case' neg=>exact⟨j+2,by omega,by omega,by omega⟩
end
end Go.Abs
