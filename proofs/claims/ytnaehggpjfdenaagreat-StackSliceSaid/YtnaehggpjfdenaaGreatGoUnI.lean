/- Part of the library on which the proof stands: an abstract machine, its values and its soundness against the model; or what functions of the program do to such values. -/
import Derived.Test.YtnaehggpjfdenaaGreatGoSkC
import Derived.Test.YtnaehggpjfdenaaGreatGoRsA
import Derived.Test.YtnaehggpjfdenaaGreatGoEu
import Derived.Test.YtnaehggpjfdenaaGreatGoRsD
set_option linter.unusedVariables false
set_option linter.unusedSimpArgs false
set_option maxHeartbeats 16000000
set_option maxRecDepth 20000
namespace Go.Abs
def bdO (l:List Rn) (i:Nat):O:=.arr 1 2 [[Qk l,.i .i64 i]]
def Qkf (P:Program) (f:FuncId):Prop:=∀(h:List O) (id:Nat) (l:List Rn) (i:Nat),l.length<=8192->i<=2*l.length->h[id]?=some (bdO l i)->ACall P f [.p id 1 0 0] h (λr h'=>r=.b (decide (i=2*l.length))/\h'=h)
def OddC (P:Program) (f:FuncId):Prop:=∀(h:List O) (id:Nat) (l:List Rn) (i:Nat),l.length<=8192->i<=2*l.length->h[id]?=some (bdO l i)->ACall P f [.p id 1 0 0] h (λr h'=>r=.b (decide (i % 2=1))/\h'=h)
def NxbC (P:Program) (f:FuncId):Prop:=∀(h:List O) (id:Nat) (l:List Rn) (i:Nat),l.length<=8192->i<=2*l.length->h[id]?=some (bdO l i)->ACall P f [.p id 1 0 0] h (λr h'=>r=.i .i64 (Zy l i)/\h'=h)
def Qu6 (P:Program) (f:FuncId):Prop:=∀(h:List O) (id:Nat) (l:List Rn) (i:Nat) (x:Int),l.length<=8192->i<=2*l.length->h[id]?=some (bdO l i)->ACall P f [.p id 1 0 0,.i .i64 x] h (λr h'=>r=.t []/\h'=h.set id (bdO l (swN l i x)))
def Ea (P:Program) (f:FuncId):Prop:=∀l:List Rn,RnsV l->RnI l->CallIs P f [Qk l] (.b true)
def OrBC (P:Program) (f:FuncId):Prop:=Qv P f=true/\∀a b:Bool,CallIs P f [.b a,.b b] (.b (a || b))
def Qik (P:Program) (f:FuncId):Prop:=∀(g:FuncId),OrBC P g->∀a b U:List Rn,RnsV a->RnsV b->RnI a->RnI b->RnsV U->(∀x,Qj U x↔Qj a x∨Qj b x)->CallIs P f [Qk a,Qk b,.f g []] (Qk U)
def Q4d (P:Program) (f:FuncId):Prop:=∀a b U:List Rn,RnsV a->RnsV b->RnI a->RnI b->RnsV U->(∀x,Qj U x↔Qj a x∨Qj b x)->CallIs P f [Qk a,Qk b] (Qk U)
section
variable {P:Program} (hm:P.follows .mixedOrders=true)
include hm
theorem Q2v {f:FuncId} (hf:Q9 P f L21.c L21.r L21.n) (hcb:Qv P f=true):OrBC P f:=by
 refine⟨hcb,λa b=>?_⟩
 refine PureC.is (Q6 hm hf (qh rfl) ?_) rfl
 unfold L21.c
 cases a<;>cases b<;>simp[go_sem,L21.r]
theorem Q7r {f ff:FuncId} (hf:Q9 P f (L22.c ff) L22.r L22.n) (hff:Qd1 P ff):Ea P f:=by
 intro l hl hb
 have hll:=hl.len hb
 refine PureC.is (Q6 hm hf (qh rfl) ?_) rfl
 unfold L22.c
 simp[go_sem,Qk]
 refine Qc (α:=Nat) (λi=>i<=l.length)
  (λi=>⟨[(0,Qk l),(5,Qk l),(6,.i .i64 l.length),(7,.i .i64 i)],[]⟩)
  (λi=>l.length-i) 0 (Nat.zero_le _) ?_ ?_
 ·simp[go_sem,Qk]
 intro i hi
 by_cases hil:i=l.length
 ·subst hil
  simp[go_sem,Qk,L22.r]
 have hlt:i<l.length:=by omega
 have hq:l[i]?=some l[i]:=q9 hlt
 have h1:=hl.1 _ (qb hq)
 have h2:=hb _ (qb hq)
 have hprev:∀j,i=j+1->∃s,l[j]?=some s/\s.b<(l[i]).a:=λj hj=>by
  subst hj
  exact⟨l[j],q9 (by omega),j8.1 hl.2 j (j+1) (by omega) hlt (by omega)⟩
 generalize l[i]=r at *
 obtain⟨_,hq'⟩:=q8.1 hq
 have hcall:=hff r (by omega)
 simp only[Rn.cs]at hcall
 by_cases hi0:i=0
 ·subst hi0
  simp (disch:=omega) [go_sem,Qk,hlt,hq,hq',Rn.cs,show ¬ r.b<=r.a by omega,Q0]
  refine Qg hcall ?_
  simp (disch:=omega) [go_sem,Qk,hlt,hq,hq',Rn.cs,show ¬ r.b<=r.a by omega,Q0]
  exact⟨1,by omega,by omega,by omega⟩
 ·obtain⟨j,rfl⟩:∃j,i=j+1:=⟨i-1,by omega⟩
  obtain⟨s,hs,hsr⟩:=hprev j rfl
  obtain⟨hjl,hs'⟩:=q8.1 hs
  have hlz:(j:Int)+1<(l.length:Int):=by omega
  simp (disch:=omega) [go_sem,Qk,hlt,hlz,hjl,hq,hq',hs,hs',Rn.cs,show ¬ r.b<=r.a by omega,show ¬ r.a<=s.b by omega,Q0]
  refine⟨by omega,Qg hcall ?_⟩
  simp (disch:=omega) [go_sem,Qk,hlt,hlz,hjl,hq,hq',hs,hs',Rn.cs,show ¬ r.b<=r.a by omega,show ¬ r.a<=s.b by omega,Q0]
  exact⟨j+2,by omega,by omega,by omega⟩
theorem Qaq {f:FuncId} (hf:Q9 P f L25.c L25.r L25.n):Qkf P f:=by
 intro h id l i hl hi hid
 refine E4 hm hf (qh rfl) ?_
 unfold L25.c
 have hb:(((i:Nat):Int) == 2*(l.length:Int))=decide (i=2*l.length):=by
  by_cases h1:i=2*l.length
  ·simp[h1]
  ·simp[h1];omega
 simp (disch:=omega) [go_sem,hid,bdO,Qk,Q0,hb,L25.r]
theorem Q53 {f:FuncId} (hf:Q9 P f L23.c L23.r L23.n):OddC P f:=by
 intro h id l i hl hi hid
 refine E4 hm hf (qh rfl) ?_
 unfold L23.c
 have ht:((i:Nat):Int).tmod 2=((i % 2:Nat):Int):=by rw[jr (by omega)];simp
 have w:=Q0 (z:=((i % 2:Nat):Int)) (by omega) (by omega)
 have hb:((((i % 2:Nat):Int)) == 1)=decide (i % 2=1):=by
  by_cases h1:i % 2=1
  ·simp[h1]
  ·simp[h1];omega
 have hb2:((i:Int) % 2 == 1)=decide (i % 2=1):=by rw[<- hb];simp
 simp (disch:=omega) [go_sem,hid,bdO,Qk,ht,w,hb2,L23.r]
theorem Qar {f fo fi:FuncId} (hf:Q9 P f (L24.c fo fi) L24.r L24.n) (ho:Qkf P fo) (hin:OddC P fi):NxbC P f:=by
 intro h id l i hl hi hid
 refine E4 hm hf (qh rfl) ?_
 unfold L24.c
 have hoc:=ho h id l i hl hi hid
 have hic:=hin h id l i hl hi hid
 simp[go_sem]
 refine Qy hoc ?_
 by_cases h1:i=2*l.length
 ·have e:Zy l i=1048577:=by rw[h1];exact E6 l
  rw[e]
  simp[go_sem,h1,L24.r]
 ·simp[go_sem,h1]
  refine Qy hic ?_
  have hd:i / 2<l.length:=by omega
  have hq:((i:Nat):Int).tdiv 2=((i / 2:Nat):Int):=by rw[Int.tdiv_eq_ediv_of_nonneg (by omega)];simp
  have w:=Q0 (z:=((i / 2:Nat):Int)) (by omega) (by omega)
  have hr:l[i / 2]?=some l[i / 2]:=q9 hd
  have e:Zy l i=if i % 2=1 then (l[i / 2]).b else (l[i / 2]).a:=by unfold Zy;rw[hr];rfl
  rw[e]
  generalize l[i / 2]=r at *
  obtain⟨_,hr'⟩:=q8.1 hr
  generalize i / 2=k at *
  by_cases h2:i % 2=1
  ·simp (disch:=omega) [go_sem,h2,hid,bdO,Qk,hq,w,hd,hr,hr',Rn.cs,Q0,L24.r]
  ·simp (disch:=omega) [go_sem,h2,hid,bdO,Qk,hq,w,hd,hr,hr',Rn.cs,Q0,L24.r]
theorem Qap {f fn:FuncId} (hf:Q9 P f (L26.c fn) L26.r L26.n) (hn:NxbC P fn):Qu6 P f:=by
 intro h id l i x hl hi hid
 refine E4 hm hf (qh rfl) ?_
 unfold L26.c
 have hnc:=hn h id l i hl hi hid
 obtain⟨hlt,hid'⟩:=q8.1 hid
 simp[go_sem]
 refine Qy hnc ?_
 unfold swN
 by_cases h1:Zy l i=x
 ·rw[if_pos h1]
  simp (disch:=omega) [go_sem,h1,hid,hid',hlt,bdO,Qk,Q0,L26.r]
 ·rw[if_neg h1]
  have hb:(Zy l i == x)=false:=by simpa using h1
  have hse:h.set id (bdO l i)=h:=Z7 hid
  rw[hse]
  simp (disch:=omega) [go_sem,h1,hb,L26.r]
theorem Q7q {f fv fo fn fp fi:FuncId} (hf:Q9 P f (L29.c fv fo fn fp fi) L29.r L29.n)
  (hv:Ea P fv) (ho:Qkf P fo) (hn:NxbC P fn) (hp:Qu6 P fp) (hin:OddC P fi):Qik P f:=by
 rintro g ⟨hcb,hg⟩ a b U va vb ia ib hU hUx
 have hal:=va.len ia
 have hbl:=vb.len ib
 refine PureC.is (Q6 hm hf (qh rfl) ?_) rfl
 unfold L29.c
 simp[go_sem]
 refine Q4 (hv a va ia) ?_
 simp[go_sem]
 refine Q4 (hv b vb ib) ?_
 simp[go_sem,Qk]
 refine Qx [.t 9 2] (α:=Nat × Nat × Int × List Rn × Nat) (λp=>SwI a b p.1 p.2.1 p.2.2.1 p.2.2.2.1)
  (λp=>⟨[(2,.f g []),(7,.p 0 1 0 0),(8,.p 1 1 0 0),(9,.own 2 (p.2.2.2.2+1) 0 p.2.2.2.1.length),(10,.b (Ek p.1 p.2.1))],[.arr 1 2 [[Qk a,.i .i64 p.1]],.arr 1 2 [[Qk b,.i .i64 p.2.1]],.arr (p.2.2.2.2+1) 2 (p.2.2.2.1.map Rn.cs)]⟩)
  (λp=>2*a.length+2*b.length-p.1-p.2.1) (0,0,-5000,[],0) (SwI.start va vb ia ib) ?_ ?_
 ·simp[go_sem,Qk,Ek]
 rintro⟨i,j,X,out,gn⟩ hI
 simp only at hI ⊢
 have hil:=hI.pa.le
 have hjl:=hI.pb.le
 have hol:=hI.len
 have k1:=ho [.arr 1 2 [[Qk a,.i .i64 i]],.arr 1 2 [[Qk b,.i .i64 j]],.arr (gn+1) 2 (out.map Rn.cs)] 0 a i hal hil rfl
 have k2:=ho [.arr 1 2 [[Qk a,.i .i64 i]],.arr 1 2 [[Qk b,.i .i64 j]],.arr (gn+1) 2 (out.map Rn.cs)] 1 b j hbl hjl rfl
 by_cases hend:i=2*a.length/\j=2*b.length
 ·obtain⟨h1,h2⟩:=hend
  have hUe:out=U:=by
   rw[h1,h2]at hI
   exact hI.done va vb hU hUx
  subst hUe
  simp[go_sem]
  refine Qy k1 ?_
  simp[go_sem,h1]
  rw[h1]at k2
  refine Qy k2 ?_
  simp[go_sem,h2,L29.r]
  rw[if_pos (I5 out)];rfl
 have hij:i<2*a.length∨j<2*b.length:=by omega
 obtain⟨x,hx⟩:∃x,x=min (Zy a i) (Zy b j):=⟨_,rfl⟩
 have hst:=hI.step va vb ia ib hx hij
 obtain⟨i',hi'⟩:∃i',swN a i x=i':=⟨_,rfl⟩
 obtain⟨j',hj'⟩:∃j',swN b j x=j':=⟨_,rfl⟩
 have n1:=hn [.arr 1 2 [[Qk a,.i .i64 i]],.arr 1 2 [[Qk b,.i .i64 j]],.arr (gn+1) 2 (out.map Rn.cs)] 0 a i hal hil rfl
 have n2:=hn [.arr 1 2 [[Qk a,.i .i64 i]],.arr 1 2 [[Qk b,.i .i64 j]],.arr (gn+1) 2 (out.map Rn.cs)] 1 b j hbl hjl rfl
 have p1:=hp [.arr 1 2 [[Qk a,.i .i64 i]],.arr 1 2 [[Qk b,.i .i64 j]],.arr (gn+1) 2 (out.map Rn.cs)] 0 a i x hal hil rfl
 have p2:=hp [.arr 1 2 [[Qk a,.i .i64 i']],.arr 1 2 [[Qk b,.i .i64 j]],.arr (gn+1) 2 (out.map Rn.cs)] 1 b j x hbl hjl rfl
 rw[hi']at p1
 rw[hj']at p2
 rw[hi',hj']at hst
 have hil':=hst.pa.le
 have hjl':=hst.pb.le
 have q1:=hin [.arr 1 2 [[Qk a,.i .i64 i']],.arr 1 2 [[Qk b,.i .i64 j']],.arr (gn+1) 2 (out.map Rn.cs)] 0 a i' hal hil' rfl
 have q2:=hin [.arr 1 2 [[Qk a,.i .i64 i']],.arr 1 2 [[Qk b,.i .i64 j']],.arr (gn+1) 2 (out.map Rn.cs)] 1 b j' hbl hjl' rfl
 have hgc:=hg (decide (i' % 2=1)) (decide (j' % 2=1))
 rw[show (decide (i' % 2=1) || decide (j' % 2=1))=Ek i' j' from rfl]at hgc
 have hmeas:i+j+1<=i'+j':=by
  have h3:Zy a i=x∨Zy b j=x:=by omega
  rw[<- hi',<- hj']
  unfold swN
  rcases h3 with h3 | h3
  ·rw[if_pos h3];split<;>omega
  ·rw[if_pos h3];split<;>omega
 have hop:=hI.op
 generalize Zy a i=ba at *
 generalize Zy b j=bb at *
 have hmn:(if bb<ba then bb else ba)=x:=by rw[hx];split<;>omega
 have hmn2:(if ba<=bb then ba else bb)=x:=by rw[hx];split<;>omega
 rcases (show i≠2*a.length∨(i=2*a.length/\j≠2*b.length) by omega) with h1 | ⟨h1,h2⟩
 case' inl =>
  rw[decide_eq_false h1]at k1
  simp[go_sem]
  refine Qy k1 ?_
  simp[go_sem]
 case' inr =>
  rw[decide_eq_true h1]at k1
  rw[decide_eq_false h2]at k2
  simp[go_sem]
  refine Qy k1 ?_
  simp[go_sem]
  refine Qy k2 ?_
  simp[go_sem]
 all_goals
  refine Qy n1 ?_
  simp[go_sem]
  refine Qy n2 ?_
  simp[go_sem,<- hx,hmn,hmn2]
  refine Qy p1 ?_
  simp[go_sem,bdO]
  refine Qy p2 ?_
  simp[go_sem,bdO]
  refine Qy q1 ?_
  simp[go_sem]
  refine Qy q2 ?_
  simp[go_sem]
  refine⟨hcb,Q4 hgc ?_⟩
  obtain⟨was,hwas⟩:∃w,Ek i j=w:=⟨_,rfl⟩
  obtain⟨now,hnow⟩:∃w,Ek i' j'=w:=⟨_,rfl⟩
  rw[hwas,hnow]at hst
  rw[hwas]at hop
  have htk:List.take out.length (out.map Rn.cs)=out.map Rn.cs:=qe (by simp)
  cases was<;>cases now
  ·simp (disch:=omega) [go_sem,hwas,hnow,Q0]
   exact⟨i',j',x,out,hst,by omega,gn,⟨⟨rfl,rfl⟩,hnow⟩,⟨rfl,rfl⟩,⟨rfl,rfl⟩,⟨rfl,rfl⟩,Qe7 _ _⟩
  ·simp (disch:=omega) [go_sem,hwas,hnow,htk,Q0]
   refine⟨⟨by omega,by omega⟩,i',j',x,out++[⟨x,0⟩],hst,by omega,gn+1,⟨⟨rfl,by simp⟩,hnow⟩,⟨rfl,rfl⟩,⟨rfl,rfl⟩,⟨rfl,by simp[Rn.cs]⟩,Qe7 _ _⟩
  ·obtain⟨o,f0,ho1,_⟩:=hop rfl
   subst ho1
   have hog:∀x:List V,(List.map Rn.cs o++[x])[o.length]?=some x:=λx=>by
    have:=qf (l₁:=List.map Rn.cs o) (l₂:=[x]) (i:=o.length) (by simp)
    rw[this];simp
   have hos:∀x y:List V,(List.map Rn.cs o++[x]).set o.length y=List.map Rn.cs o++[y]:=λx y=>by
    rw[jp _ _ (by simp)];simp
   have hou:Eo x true false (o++[⟨f0,0⟩])=o++[⟨f0,x⟩]:=by simp[Eo]
   rw[hou]at hst
   simp at hol
   simp (disch:=omega) [go_sem,hwas,hnow,hog,hos,Rn.cs,Q0]
   exact⟨i',j',x,o++[⟨f0,x⟩],hst,by omega,gn,⟨⟨rfl,by simp⟩,hnow⟩,⟨rfl,rfl⟩,⟨rfl,rfl⟩,rfl,by simp[Rn.cs]⟩
  ·simp (disch:=omega) [go_sem,hwas,hnow,Q0]
   exact⟨i',j',x,out,hst,by omega,gn,⟨⟨rfl,rfl⟩,hnow⟩,⟨rfl,rfl⟩,⟨rfl,rfl⟩,⟨rfl,rfl⟩,Qe7 _ _⟩
theorem Q7s {f fs fg:FuncId} (hf:Q9 P f (L20.c fs fg) L20.r L20.n) (hs:Qik P fs) (hg:OrBC P fg):Q4d P f:=by
 intro a b U va vb ia ib hU hUx
 have h:=hs fg hg a b U va vb ia ib hU hUx
 refine PureC.is (Q6 hm hf (qh rfl) ?_) rfl
 unfold L20.c
 simp[go_sem]
 refine Q4 h ?_
 simp[go_sem,Qk,L20.r]
end
theorem Qdb {n:Int} (h1:0<=n) (h2:n<18446744073709551616):IntKind.u64.wrap n=n:=by
 show n % 18446744073709551616=n
 omega
def OkCC (P:Program) (f:FuncId):Prop:=∀x:Int,CallIs P f [.i .i64 x] (.b (decide (-4096<=x) && decide (x<4096)))
def Q4e (P:Program) (f:FuncId):Prop:=Qv P f=true/\∀(w:Rw) (y:Int),CallIs P f [.a w.cs,.i .i64 y] (.i .i64 (Iz w.y y))
structure IdxR (g:List Rw) (y:Int) (n:Nat):Prop where
 le:n<=g.length
 lo:∀(k:Nat) (w:Rw),g[k]?=some w->k<n->w.y<y
 hi:∀(k:Nat) (w:Rw),g[k]?=some w->n<=k->y<=w.y
theorem IdxR.ex:∀{g:List Rw},RgV g->∀y:Int,∃n,IdxR g y n
 | [],_,y=>⟨0,by simp,by simp,by simp⟩
 | w::g,hg,y=>by
   have hg2:RgV g:=⟨λu hu=>hg.rs u (by simp[hu]),λu hu=>hg.ne u (by simp[hu]),(jd.1 hg.asc).2⟩
   have hlt:=(jd.1 hg.asc).1
   by_cases h:w.y<y
   ·obtain⟨n,h1,h2,h3⟩:=IdxR.ex hg2 y
    refine⟨n+1,by simp;omega,λk v hk hkn=>?_,λk v hk hkn=>?_⟩
    ·cases k with
     | zero=>simp at hk;subst hk;exact h
     | succ k=>exact h2 k v (by simpa using hk) (by omega)
    ·cases k with
     | zero=>omega
     | succ k=>exact h3 k v (by simpa using hk) (by omega)
   ·refine⟨0,by omega,by omega,λk v hk _=>?_⟩
    cases k with
    | zero=>simp at hk;subst hk;omega
    | succ k =>
      have:=hlt v (qb (i:=k) (by simpa using hk))
      omega
def BsC (P:Program) (f:FuncId):Prop:=∀fg,Q4e P fg->∀(g:List Rw) (y:Int) (n:Nat),g.length<=8192->IdxR g y n->CallIs P f [rwL g,.i .i64 y,.f fg []] (.t [.i .i64 n,.b (decide (∃w,g[n]?=some w/\w.y=y))])
def Qtx (P:Program) (f:FuncId):Prop:=∀(g:List Rw) (y:Int),RgV g->RgB g->CallIs P f [rgV g,.i .i64 y] (Qk (J4 g y))
def Qd7 (P:Program) (f:FuncId):Prop:=∀l:List Rn,l≠[]->l.length<=8192->CallIs P f [Qk l] (Qk l)
theorem IdxR.row {g:List Rw} (hg:RgV g) {y:Int} {n:Nat} (h:IdxR g y n):(∀w,g[n]?=some w->w.y=y->J4 g y=w.rs)/\((¬ ∃w,g[n]?=some w/\w.y=y)->J4 g y=[]):=by
 constructor
 ·intro w hw he
  subst he
  exact Q0q hg (qb hw)
 ·intro hn
  refine Q0r λw hw he=>?_
  obtain⟨k,hk⟩:=qq hw
  by_cases h1:k<n
  ·have:=h.lo k w hk h1;omega
  ·by_cases h2:k=n
   ·subst h2;exact hn ⟨w,hk,he⟩
   ·have hkl:=(q8.1 hk).1
    have hq:g[n]?=some g[n]:=q9 (by omega)
    have h3:=h.hi n _ hq (Nat.le_refl _)
    have h4:=j8.1 hg.asc n k (by omega) hkl (by omega)
    rw[(q8.1 hk).2]at h4
    omega
section
variable {P:Program} (hm:P.follows .mixedOrders=true)
include hm
theorem Qax {f:FuncId} (hf:Q9 P f L1t.c L1t.r L1t.n):OkCC P f:=by
 intro x
 refine PureC.is (Q6 hm hf (qh rfl) ?_) rfl
 unfold L1t.c
 by_cases h1:-4096<=x<;>by_cases h2:x<4096<;>simp[go_sem,h1,h2,L1t.r]
theorem Q2x {f fc:FuncId} (hf:Q9 P f (L1v.c fc) L1v.r L1v.n) (hc:CmpC P fc) (hcb:Qv P f=true):Q4e P f:=by
 refine⟨hcb,λw y=>?_⟩
 have h:=hc w.y y
 refine PureC.is (Q6 hm hf (qh rfl) ?_) rfl
 unfold L1v.c
 simp[go_sem,Rw.cs]
 refine Q4 h ?_
 simp[go_sem,L1v.r]
theorem Q0k {f:FuncId} (hf:Q9 P f L2k.c L2k.r L2k.n):Qd7 P f:=by
 intro l hl hll
 refine PureC.is (Q6 hm hf (qh rfl) ?_) rfl
 unfold L2k.c
 obtain⟨r,k,rfl⟩:∃r k,l=r::k:=by
  cases l with
  | nil=>exact absurd rfl hl
  | cons r k=>exact⟨r,k,rfl⟩
 simp only[List.length_cons]at hll
 have hd:=I5 (r::k)
 have ht:List.take (k.length+1) (r.cs::k.map Rn.cs)=r.cs::k.map Rn.cs:=qe (by simp)
 simp (disch:=omega) [go_sem,Qk,ht,L2k.r]
 refine⟨⟨by omega,by omega⟩,?_⟩
 rw[if_pos ⟨hd r (by simp),λx hx=>hd x (by simp[hx])⟩];rfl
theorem K8 {f:FuncId} (hf:Q9 P f L2j.c L2j.r L2j.n):BsC P f:=by
 rintro fg ⟨hcb,hcmp⟩ g y n hgl hn
 refine PureC.is (Q6 hm hf (qh rfl) ?_) rfl
 unfold L2j.c
 simp[go_sem,rwL]
 refine Qc (α:=Nat × Nat) (λp=>p.1<=n/\n<=p.2/\p.2<=g.length)
  (λp=>⟨[(0,rwL g),(1,.i .i64 y),(2,.f fg []),(8,.i .i64 g.length),(9,.i .i64 p.1),(10,.i .i64 p.2)],[]⟩)
  (λp=>p.2-p.1) (0,g.length) ⟨Nat.zero_le _,hn.le,Nat.le_refl _⟩ ?_ ?_
 ·simp[go_sem,rwL]
 rintro⟨i,j⟩ ⟨h1,h2,h3⟩
 simp only at h1 h2 h3 ⊢
 by_cases hij:i<j
 ·obtain⟨q,hq⟩:∃q,q=(i+j) / 2:=⟨_,rfl⟩
  have hql:q<g.length:=by omega
  have hw:g[q]?=some g[q]:=q9 hql
  have w1:=Qdb (n:=(i:Int)+j) (by omega) (by omega)
  have hlo:=hn.lo q _ hw
  have hhi:=hn.hi q _ hw
  have hcw:=hcmp g[q] y
  generalize g[q]=w at *
  obtain⟨_,hw'⟩:=q8.1 hw
  have hfd:((i:Int)+j).fdiv 2=(q:Int):=by rw[Int.fdiv_eq_ediv_of_nonneg _ (by omega)];omega
  have w2:=Q0 (z:=(q:Int)) (by omega) (by omega)
  have hcn:Iz w.y y<0↔w.y<y:=by have:=cmpI_lt w.y y;simpa using this
  generalize Iz w.y y=c at *
  simp only[Rw.cs]at hcw
  simp (disch:=omega) [go_sem,rwL,hij,w1,w2,hfd,hql,hw,hw',Rw.cs,Q0]
  refine⟨hcb,Q4 hcw ?_⟩
  by_cases hlt:w.y<y
  ·have hqn:q<n:=jb λhh=>by have:=hhi (by omega);omega
   simp (disch:=omega) [go_sem,rwL,hcn,hlt,Q0]
   exact⟨q+1,j,⟨by omega,by omega,by omega⟩,by omega,by omega,rfl⟩
  ·have hqn:n<=q:=jb λhh=>by have:=hlo (by omega);omega
   simp (disch:=omega) [go_sem,rwL,hcn,hlt,Q0]
   exact⟨i,q,⟨by omega,by omega,by omega⟩,by omega,rfl,rfl⟩
 ·obtain rfl:i=n:=by omega
  by_cases hil:i<g.length
  ·have hw:g[i]?=some g[i]:=q9 hil
   have hcw:=hcmp g[i] y
   generalize g[i]=w at *
   obtain⟨_,hw'⟩:=q8.1 hw
   have he:(Iz w.y y == 0)=decide (w.y=y):=by
    have h1:(Iz w.y y=0)↔w.y=y:=by
     unfold Iz
     split
     ·omega
     ·split<;>omega
    by_cases h2:w.y=y
    ·rw[decide_eq_true h2,h1.2 h2];rfl
    ·rw[decide_eq_false h2]
     simpa using λhh=>h2 (h1.1 hh)
   rw[hw]
   simp only[Rw.cs]at hcw
   simp (disch:=omega) [go_sem,rwL,hij,hil,hw,hw',Rw.cs,Q0]
   refine⟨hcb,Q4 hcw ?_⟩
   simp[go_sem,he,L2j.r]
  ·have hn0:g[i]?=none:=qk (by omega)
   rw[hn0]
   simp (disch:=omega) [go_sem,rwL,hij,hil,L2j.r]
theorem Q7t {f fb fg:FuncId} (hf:Q9 P f (L1u.c fb fg) L1u.r L1u.n) (hb:BsC P fb) (hg:Q4e P fg):Qtx P f:=by
 intro g y hv hbd
 obtain⟨n,hn⟩:=IdxR.ex hv y
 have hbc:=hb fg hg g y n (hv.len hbd) hn
 obtain⟨h1,h2⟩:=hn.row hv
 by_cases hex:∃w,g[n]?=some w/\w.y=y
 ·rw[decide_eq_true hex]at hbc
  obtain⟨w,hw,hwy⟩:=hex
  rw[h1 w hw hwy]
  obtain⟨hnl,hw'⟩:=q8.1 hw
  refine PureC.is (Q6 hm hf (qh rfl) ?_) rfl
  unfold L1u.c
  simp[go_sem,rgV]
  refine Q4 hbc ?_
  simp[go_sem,hnl,hw,hw',Rw.cs,Qk,L1u.r]
 ·rw[decide_eq_false hex]at hbc
  rw[h2 hex]
  refine CallIs.res (r:=.nil) ?_ (.inl (.inl (Le0.nil 2)))
  refine PureC.is (Q6 hm hf (qh rfl) ?_) rfl
  unfold L1u.c
  simp[go_sem,rgV]
  refine Q4 hbc ?_
  simp[go_sem,L1u.r]
theorem Q2y {f fo fr:FuncId} (hf:Q9 P f (L1r.c fo fr) L1r.r L1r.n) (ho:OkCC P fo) (hr:Ea P fr):Qcw P f:=by
 intro g hg hb
 have hll:=hg.len hb
 refine PureC.is (Q6 hm hf (qh rfl) ?_) rfl
 unfold L1r.c
 simp[go_sem,rgV]
 refine Qc (α:=Nat) (λi=>i<=g.length)
  (λi=>⟨[(1,.p 0 1 0 0),(6,rwL g),(7,.i .i64 g.length),(8,.i .i64 i)],[.arr 1 1 [[rwL g]]]⟩)
  (λi=>g.length-i) 0 (Nat.zero_le _) ?_ ?_
 ·simp[go_sem,rwL]
 intro i hi
 by_cases hil:i=g.length
 ·subst hil
  simp[go_sem,rwL,L1r.r]
 have hlt:i<g.length:=by omega
 have hq:g[i]?=some g[i]:=q9 hlt
 have hy:=hb.yb hg (qb hq)
 have hrs:=hg.rs _ (qb hq)
 have hrb:=hb.rnb hg (qb hq)
 have hne:=hg.ne _ (qb hq)
 have hvc:=hr _ hrs hrb
 have hprev:∀j,i=j+1->∃s,g[j]?=some s/\s.y<(g[i]).y:=λj hj=>by
  subst hj
  exact⟨g[j],q9 (by omega),j8.1 hg.asc j (j+1) (by omega) hlt (by omega)⟩
 have ho1:=ho (g[i]).y
 rw[show (decide (-4096<=(g[i]).y) && decide ((g[i]).y<4096))=true by simp;omega]at ho1
 generalize g[i]=w at *
 obtain⟨_,hq'⟩:=q8.1 hq
 obtain⟨y,rs⟩:=w
 simp only at hy hrs hrb hne hvc hprev ho1
 obtain⟨r0,hr0⟩:∃r,rs[0]?=some r:=by cases rs with | nil=>exact absurd rfl hne | cons a b=>exact⟨a,rfl⟩
 obtain⟨l,hl⟩:∃l,rs.length=l+1:=⟨rs.length-1,by have:=List.length_pos_iff.2 hne;omega⟩
 obtain⟨r1,hr1⟩:∃r,rs[l]?=some r:=⟨rs[l]'(by omega),q9 (by omega)⟩
 have hlb:=hrs.len hrb
 have e0:=hrb r0 (qb hr0)
 have e1:=hrb r1 (qb hr1)
 have f0:=hrs.1 r0 (qb hr0)
 have f1:=hrs.1 r1 (qb hr1)
 obtain⟨_,hr0'⟩:=q8.1 hr0
 obtain⟨_,hr1'⟩:=q8.1 hr1
 have o0:=ho r0.a
 rw[show (decide (-4096<=r0.a) && decide (r0.a<4096))=true by simp;omega]at o0
 have o1:=ho (r1.b-1)
 rw[show (decide (-4096<=r1.b-1) && decide (r1.b-1<4096))=true by simp;omega]at o1
 have hl0:0<rs.length:=by omega
 have hlf:((rs.length:Int) == 0)=false:=by simp;omega
 have hlf2:((l:Int)+1 == 0)=false:=by simp;omega
 simp only[Qk]at hvc
 by_cases hi0:i=0
 case' pos =>
  subst hi0
  simp (disch:=omega) [go_sem,rwL,hlt,hq,hq',Rw.cs,Qk,Q0]
  refine Qg ho1 ?_
  simp (disch:=omega) [go_sem,rwL,hlt,hq,hq',Rw.cs,Qk,hl,hlf2,Q0]
 case' neg =>
  obtain⟨j,rfl⟩:∃j,i=j+1:=⟨i-1,by omega⟩
  obtain⟨s,hs,hsr⟩:=hprev j rfl
  obtain⟨hjl,hs'⟩:=q8.1 hs
  have hlz:(j:Int)+1<(g.length:Int):=by omega
  have hz0:(0:Int)<=(j:Int)+1:=by omega
  simp (disch:=omega) [go_sem,rwL,hlt,hlz,hjl,hz0,hq,hq',hs,hs',Rw.cs,Qk,Q0]
  refine Qg ho1 ?_
  simp (disch:=omega) [go_sem,rwL,hlt,hlz,hjl,hz0,hq,hq',hs,hs',Rw.cs,Qk,hl,hlf2,show ¬ y<=s.y by omega,Q0]
 all_goals
  refine Qg hvc ?_
  simp (disch:=omega) [go_sem,Rn.cs,Qk,hl,hlf2,hl0,hr0,hr0',Q0]
  refine Q4 o0 ?_
  simp (disch:=omega) [go_sem,Rn.cs,Qk,hl,hlf2,hl0,hr1,hr1',Q0]
  refine Q4 o1 ?_
  simp (disch:=omega) [go_sem,Q0]
 case' pos=>exact⟨1,by omega,by omega,by omega⟩
 case' neg=>exact⟨j+2,by omega,by omega,by omega⟩
end
def Qj0 (P:Program) (f:FuncId):Prop:=∀xs:List Int,xs.length<4611686018427387904->xs.Pairwise (λx y=>x<=y)->∃ys zs:List Int,ys.Pairwise (λx y=>x<y)/\(∀x,x∈ys↔x∈xs)/\ys.length<=xs.length/\zs.length=xs.length/\zs.take ys.length=ys /\
 ∀(h:List O) (id gen:Nat),h[id]?=some (.arr gen 1 (xs.map λx=>[.i .i64 x]))->ACall P f [.own id gen 0 xs.length] h (λr h'=>r=.own id gen 0 ys.length/\h'=h.set id (.arr gen 1 (zs.map λx=>[.i .i64 x])))
def Q57 (U:List Rw) (D:List Int):List Rw:=(D.map λy=>Rw.mk y (J4 U y)).filter λw=>decide (w.rs≠[])
theorem Qgw (U:List Rw) (D:List Int) (y:Int):Q57 U (D++[y])=Q57 U D++(if J4 U y=[] then [] else [⟨y,J4 U y⟩]):=by
 unfold Q57
 rw[qx,List.filter_append]
 congr 1
 by_cases h:J4 U y=[]
 ·simp[h]
 ·simp[h]
theorem Qlk (U:List Rw) (D:List Int):(Q57 U D).length<=D.length:=by
 unfold Q57
 refine Nat.le_trans (jc _ _) ?_
 simp
theorem Qpe {U:List Rw} (hU:RgV U) (hb:RgB U) {D:List Int} (hD:D.Pairwise λx y=>x<y) (hm:∀w∈U,w.y∈D):Q57 U D=U:=by
 refine RgV.ext ⟨λw hw=>?_,λw hw=>?_,?_⟩ hU λy x=>?_
 ·obtain⟨h1,_⟩:=qu.1 hw
  obtain⟨y,_,rfl⟩:=qo.1 h1
  exact(Qav hU hb y).1
 ·simpa using(qu.1 hw).2
 ·refine List.Pairwise.filter _ ?_
  rw[ji]
  exact hD
 ·constructor
  ·rintro⟨w,hw,rfl,hx⟩
   obtain⟨h1,_⟩:=qu.1 hw
   obtain⟨y,_,rfl⟩:=qo.1 h1
   exact(By hU).1 hx
  ·intro h
   have h2:=(By hU).2 h
   obtain⟨w,hw,rfl,_⟩:=h
   refine⟨⟨w.y,J4 U w.y⟩,qu.2 ⟨qo.2 ⟨w.y,hm w hw,rfl⟩,?_⟩,rfl,h2⟩
   simp only[decide_eq_true_eq]
   intro h0
   rw[h0]at h2
   exact Qm _ h2
theorem Qki {a b:List Rw} (ba:RgB a) (bb:RgB b) {w:Rw} (hw:w∈Km a b):w.y∈a.map Rw.y++b.map Rw.y:=by
 obtain⟨x,hx⟩:=((Wu a b).rs w hw).some ((Wu a b).ne w hw)
 rcases (Q49 ba bb).1 ⟨w,hw,rfl,hx⟩ with⟨v,hv,he,_⟩ | ⟨v,hv,he,_⟩
 ·exact qg.2 (.inl (qo.2 ⟨v,hv,he⟩))
 ·exact qg.2 (.inr (qo.2 ⟨v,hv,he⟩))
theorem Qok {a b:List Rw} (ha:RgV a) (hb:RgV b) (ba:RgB a) (bb:RgB b) (y x:Int):Qj (J4 (Km a b) y) x↔Qj (J4 a y) x∨Qj (J4 b y) x:=by
 rw[By (Wu a b),By ha,By hb,Q49 ba bb]
def Q7c (P:Program) (f:FuncId):Prop:=∀fu,Qv P fu=true->Q4d P fu->∀a b:List Rw,RgV a->RgV b->RgB a->RgB b->CallIs P f [rgV a,rgV b,.f fu []] (rgV (Km a b))
section
variable {P:Program} (hm:P.follows .mixedOrders=true)
include hm
theorem Bf {f fv fs fk fr fc:FuncId} (hf:Q9 P f (L1s.c fv fs fk fr fc) L1s.r L1s.n) (hv:Qcw P fv) (hs:Qcq P fs) (hk:Qj0 P fk) (hr:Qtx P fr) (hc:Qd7 P fc):Q7c P f:=by
 intro fu hcb hu a b ha hb ba bb
 have hal:=ha.len ba
 have hbl:=hb.len bb
 have v1:=hv a ha ba
 have v2:=hv b hb bb
 refine PureC.is (Q6 hm hf (qh rfl) ?_) rfl
 unfold L1s.c
 simp[go_sem,rgV]
 refine Q4 v1 ?_
 simp[go_sem,rgV]
 refine Q4 v2 ?_
 simp[go_sem,rgV]
 obtain⟨Y,hY⟩:∃Y:Nat->List Int,∀k,Y k=if k=0 then [] else if k=1 then a.map Rw.y else a.map Rw.y++b.map Rw.y:=⟨_,λ_=>rfl⟩
 have hYl:∀k,(Y k).length<=16384:=λk=>by rw[hY];split<;>(try split)<;>simp<;>omega
 refine Qx [.t 7 1] (α:=Nat × Nat) (λp=>p.1<=2)
  (λp=>⟨[(2,.f fu []),(3,.p 0 1 0 0),(4,.p 1 1 0 0),(6,.p 2 1 0 0),(7,.own 3 (p.2+1) 0 (Y p.1).length),(27,.a [rwL a,rwL b]),(28,.i .i64 p.1)],[.arr 1 1 [[rwL a]],.arr 1 1 [[rwL b]],.arr 1 1 [[.nil]],.arr (p.2+1) 1 ((Y p.1).map iel)]⟩)
  (λp=>2-p.1) (0,0) (by simp) ?_ ?_
 ·simp[go_sem,rwL,hY]
 rintro⟨k,gn⟩ hk2
 simp only at hk2 ⊢
 by_cases hkl:k<2
 ·have key:∃g:List Rw,([rwL a,rwL b]:List V)[k]?=some (rwL g)/\g.length<=8192/\Y (k+1)=Y k++g.map Rw.y:=by
   rcases (show k=0∨k=1 by omega) with rfl | rfl
   ·exact⟨a,rfl,hal,by rw[hY,hY];simp⟩
   ·exact⟨b,rfl,hbl,by rw[hY,hY];simp⟩
  obtain⟨g,hg,hgl,hYs⟩:=key
  have hYk:=hYl k
  have hkz:(k:Int)<2:=by omega
  have hdr:List.take 1 (List.drop k [V.l 2 (a.map Rw.cs),V.l 2 (b.map Rw.cs)])=[.l 2 (g.map Rw.cs)]:=by
   show List.take 1 (List.drop k [rwL a,rwL b])=[rwL g]
   rcases (show k=0∨k=1 by omega) with rfl | rfl
   ·simp at hg ⊢;exact hg
   ·simp at hg ⊢;exact hg
  simp (disch:=omega) [go_sem,rwL,hkl,hkz,hg,hdr,show k<=2 by omega,show 1<=2-k by omega,Q0]
  obtain⟨S,hS⟩:∃S:Nat->List Int,∀j,S j=Y k++(g.take j).map Rw.y:=⟨_,λ_=>rfl⟩
  have hS0:S 0=Y k:=by rw[hS];simp
  have hSn:S g.length=Y (k+1):=by rw[hS,qi,hYs]
  have hSl:∀j,(S j).length<=30000:=λj=>by rw[hS,j7,List.length_map,qv];omega
  refine Qc (α:=Nat × Nat) (λp=>p.1<=g.length)
   (λp=>⟨[(2,.f fu []),(3,.p 0 1 0 0),(4,.p 1 1 0 0),(6,.p 2 1 0 0),(7,.own 3 (p.2+1) 0 (S p.1).length),(27,.a [rwL a,rwL b]),(28,.i .i64 k),(32,rwL g),(33,.i .i64 g.length),(34,.i .i64 p.1)],[.arr 1 1 [[rwL a]],.arr 1 1 [[rwL b]],.arr 1 1 [[.nil]],.arr (p.2+1) 1 ((S p.1).map iel)]⟩)
   (λp=>g.length-p.1) (0,gn) (by simp) ?_ ?_
  ·simp[go_sem,rwL,hS0]
   exact U5 _ _
  rintro⟨j,gm⟩ hj
  simp only at hj ⊢
  by_cases hjl:j=g.length
  ·subst hjl
   rw[hSn]
   simp (disch:=omega) [go_sem,rwL,Q0]
   exact⟨k+1,by omega,by omega,gm,⟨⟨rfl,rfl⟩,by omega⟩,⟨rfl,rfl⟩,U5 _ _⟩
  have hlt:j<g.length:=by omega
  have hq:g[j]?=some g[j]:=q9 hlt
  have hSs:S (j+1)=S j++[(g[j]).y]:=by rw[hS,hS,Qa hq,qx,j6];rfl
  have hSj:=hSl j
  generalize g[j]=w at *
  obtain⟨_,hq'⟩:=q8.1 hq
  have ht:List.take (S j).length ((S j).map iel)=(S j).map iel:=qe (by simp)
  generalize S j=L at *
  simp (disch:=omega) [go_sem,rwL,hlt,hq,hq',Rw.cs,ht,Q0]
  exact⟨⟨by omega,by omega⟩,j+1,by omega,by omega,gm+1,⟨⟨rfl,by rw[hSs];simp⟩,by omega⟩,⟨rfl,by rw[hSs];simp[iel]⟩,U5 _ _⟩
 ·obtain rfl:k=2:=by omega
  have hY2:Y 2=a.map Rw.y++b.map Rw.y:=by rw[hY];simp
  rw[hY2]
  generalize hB:a.map Rw.y++b.map Rw.y=B at *
  have hBl:B.length<=16384:=by rw[<- hB];simp;omega
  have hsl:(Zt B).length=B.length:=(Q4s B).length_eq
  have hso:=hs [.arr 1 1 [[rwL a]],.arr 1 1 [[rwL b]],.arr 1 1 [[.nil]],.arr (gn+1) 1 (B.map iel)] 3 (gn+1) B (by omega) rfl
  obtain⟨D,zs,hD,hDm,hDl,hzl,hzt,hka⟩:=hk (Zt B) (by omega) (Qlb B)
  have hDm2:∀x,x∈D↔x∈B:=λx=>by rw[hDm,(Q4s B).mem_iff]
  have hkc:=hka [.arr 1 1 [[rwL a]],.arr 1 1 [[rwL b]],.arr 1 1 [[.nil]],.arr (gn+1) 1 ((Zt B).map iel),.arr 1 1 [[.nil]]] 3 (gn+1) rfl
  rw[hsl]at hkc hDl hzl
  generalize Zt B=S at *
  simp (disch:=omega) [go_sem,Q0]
  refine Qy hso ?_
  simp (disch:=omega) [go_sem,Q0]
  refine Qy hkc ?_
  simp (disch:=omega) [go_sem,Q0]
  have hU:=Qpe (Wu a b) (Qgh a b) hD λw hw=>by rw[hDm2,<- hB];exact Qki ba bb hw
  have hUr:=Qok ha hb ba bb
  have hUv:=Qav (Wu a b) (Qgh a b)
  generalize Km a b=U at *
  obtain⟨T,hT⟩:∃T:Nat->List Rw,∀j,T j=Q57 U (D.take j):=⟨_,λ_=>rfl⟩
  have hT0:T 0=[]:=by rw[hT];rfl
  have hTn:T D.length=U:=by rw[hT,qi,hU]
  have hTl:∀j,(T j).length<=16384:=λj=>by
   have h1:=Qlk U (D.take j)
   rw[qv]at h1
   rw[hT];omega
  refine Qx [.c 4 0 0 2] (α:=Nat × Nat) (λp=>p.1<=D.length)
   (λp=>⟨[(2,.f fu []),(3,.p 0 1 0 0),(4,.p 1 1 0 0),(6,.p 2 1 0 0),(12,.p 4 1 0 0),(48,.own 3 (gn+1) 0 D.length),(49,.i .i64 D.length),(50,.i .i64 p.1)],
    [.arr 1 1 [[rwL a]],.arr 1 1 [[rwL b]],.arr 1 1 [[.nil]],.arr (gn+1) 1 (zs.map iel),.arr 1 1 [[.own 5 (p.2+1) 0 (T p.1).length]],.arr (p.2+1) 2 ((T p.1).map Rw.cs)]⟩)
   (λp=>D.length-p.1) (0,0) (by simp) ?_ ?_
  ·simp[go_sem,rwL,hT0]
   exact⟨λ_ _=>rfl,U5 _ _⟩
  rintro⟨j,gm⟩ hj
  simp only at hj ⊢
  by_cases hjl:j=D.length
  ·subst hjl
   rw[hTn]
   have ht:List.take U.length (U.map Rw.cs)=U.map Rw.cs:=qe (by simp)
   simp (disch:=omega) [go_sem,ht,L1s.r]
   rw[if_pos (Qan U)];rfl
  have hlt:j<D.length:=by omega
  have hq:D[j]?=some D[j]:=q9 hlt
  have hz:zs[j]?=some D[j]:=by
   rw[<- hq,<- hzt,jf,if_pos hlt]
  have hTs:T (j+1)=T j++(if J4 U D[j]=[] then [] else [⟨D[j],J4 U D[j]⟩]):=by rw[hT,hT,Qa hq,Qgw]
  have hTj:=hTl j
  have va:=Qav ha ba D[j]
  have vb:=Qav hb bb D[j]
  have r1:=hr a D[j] ha ba
  have r2:=hr b D[j] hb bb
  have r3:=hu _ _ (J4 U D[j]) va.1 vb.1 va.2 vb.2 (hUv D[j]).1 (hUr D[j])
  have hRl:=(hUv D[j]).1.len (hUv D[j]).2
  have hcl:=hc (J4 U D[j])
  generalize J4 U D[j]=R at *
  generalize J4 a D[j]=ra at *
  generalize J4 b D[j]=rb at *
  generalize D[j]=y at *
  obtain⟨hzl2,hz'⟩:=q8.1 hz
  have htk:List.take (T j).length ((T j).map Rw.cs)=(T j).map Rw.cs:=qe (by simp)
  simp only[rgV]at r1 r2
  simp (disch:=omega) [go_sem,hlt,hz,hz',iel,rwL,Q0]
  refine Qg r1 ?_
  simp (disch:=omega) [go_sem,Q0]
  refine Qg r2 ?_
  simp (disch:=omega) [go_sem,Q0]
  refine⟨hcb,Qg r3 ?_⟩
  by_cases hR0:R=[]
  ·rw[if_pos hR0,List.append_nil]at hTs
   simp (disch:=omega) [go_sem,Qk,hR0,Q0]
   exact⟨j+1,by omega,by omega,by omega,U5 _ _,gm,⟨rfl,by rw[hTs]⟩,⟨rfl,by rw[hTs]⟩,I4 _ _⟩
  ·rw[if_neg hR0]at hTs
   have hRp:0<R.length:=List.length_pos_iff.2 hR0
   have hcl:=hcl hR0 hRl
   simp only[Qk]at hcl
   simp (disch:=omega) [go_sem,Qk,hRp,Q0]
   refine Qg hcl ?_
   simp (disch:=omega) [go_sem,Qk,hRp,htk,Q0]
   exact⟨⟨by omega,by omega⟩,j+1,by omega,by omega,by omega,U5 _ _,gm+1,⟨rfl,by rw[hTs];simp⟩,⟨rfl,by rw[hTs];simp[Rw.cs,Qk]⟩,I4 _ _⟩
theorem Q2z {f fc fu:FuncId} (hf:Q9 P f (L1q.c fc fu) L1q.r L1q.n) (hc:Q7c P fc) (hcb:Qv P fu=true) (hu:Q4d P fu):UniC P f:=by
 intro a b ha hb ba bb
 have h:=hc fu hcb hu a b ha hb ba bb
 refine PureC.is (Q6 hm hf (qh rfl) ?_) rfl
 unfold L1q.c
 simp[go_sem,rgV]
 refine Q4 h ?_
 simp[go_sem,rgV,V.cells,V.okA,L1q.r]
end
end Go.Abs
