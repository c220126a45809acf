/- Part of the library on which the proof stands: an abstract machine, its values and its soundness against the model; or what functions of the program do to such values. -/
import Derived.Test.YtnaehggpjfdenaaGreatGoUnK
import Derived.Test.YtnaehggpjfdenaaGreatGoHeap
import Derived.Test.YtnaehggpjfdenaaGreatGoSl
set_option linter.unusedVariables false
set_option linter.unusedSimpArgs false
set_option maxHeartbeats 16000000
set_option maxRecDepth 20000
namespace Go.Abs
theorem Qvo {P:Program} {fc:FuncId} {op:Int} {a b:List Rw} {i k:Nat} {Y:Int} {out:List Rw} {g:Nat} (hal:a.length<=8192) (hbl:b.length<=8192) (hil:i<=a.length) (hkl:k<=b.length) (hol:out.length<=i+k) {w v:Rw} (h1:i<a.length) (h2:k<b.length) (hq:a[i]?=some w) (hr:b[k]?=some v) (c:w.y<v.y)
  {R:List Rn} (hR:CallIs P fc [.i .i64 op,Q9 w.rs,.nil] (Q9 R)) (hst:OpI op a b (i+1) (k) w.y (if R=[] then out else out++[⟨w.y,R⟩])):Ql6 P fc op a b (i,k,Y,out,g):=by
 intro κ;unfold L2h.b opS Q5b Qm9;simp only[];have hkf:((k:Int) == b.length)=false:=by simp;omega
 obtain⟨_,hq'⟩:=q8.1 hq;obtain⟨_,hr'⟩:=q8.1 hr;simp (maxSteps:=2000000) (disch:=omega) [go_sem,rwL,h1,h2,hq,hq',hr,hr',Rw.cs,hkf,show ¬ (k:Int)=b.length by omega,show w.y<=v.y by omega,show ¬ v.y=w.y by omega,show (v.y == w.y)=false by simp;omega,Q0];refine Q2 hR ?_;have htk:List.take out.length (out.map Rw.cs)=out.map Rw.cs:=qe (by simp);by_cases hR0:R=[]
 ·rw[if_pos hR0]at hst
  simp (maxSteps:=2000000) (disch:=omega) [go_sem,Q9,hR0,Q0];exact⟨i+1,k,_,out,hst,by omega,⟨by omega,by omega⟩,g,⟨rfl,rfl⟩,⟨rfl,rfl⟩,Yp _ _⟩
 ·rw[if_neg hR0]at hst
  have hRp:0<R.length:=jl.2 hR0;simp (maxSteps:=2000000) (disch:=omega) [go_sem,Q9,hRp,htk,Q0];exact⟨⟨by omega,by omega⟩,i+1,k,_,_,hst,by omega,⟨by omega,by omega⟩,g+1,⟨rfl,by simp⟩,⟨rfl,by simp[Rw.cs,Q9]⟩,Yp _ _⟩
theorem Qvn {P:Program} {fc:FuncId} {op:Int} {a b:List Rw} {i k:Nat} {Y:Int} {out:List Rw} {g:Nat} (hal:a.length<=8192) (hbl:b.length<=8192) (hil:i<=a.length) (hkl:k<=b.length) (hol:out.length<=i+k) {w v:Rw} (h1:i<a.length) (h2:k<b.length) (hq:a[i]?=some w) (hr:b[k]?=some v) (c:w.y=v.y)
  {R:List Rn} (hR:CallIs P fc [.i .i64 op,Q9 w.rs,Q9 v.rs] (Q9 R)) (hst:OpI op a b (i+1) (k+1) v.y (if R=[] then out else out++[⟨v.y,R⟩])):Ql6 P fc op a b (i,k,Y,out,g):=by
 intro κ;unfold L2h.b opS Q5b Qm9;simp only[];have hkf:((k:Int) == b.length)=false:=by simp;omega
 obtain⟨_,hq'⟩:=q8.1 hq;obtain⟨_,hr'⟩:=q8.1 hr;simp (maxSteps:=2000000) (disch:=omega) [go_sem,rwL,h1,h2,hq,hq',hr,hr',Rw.cs,hkf,show ¬ (k:Int)=b.length by omega,c,Q0];refine Q2 hR ?_;have htk:List.take out.length (out.map Rw.cs)=out.map Rw.cs:=qe (by simp);by_cases hR0:R=[]
 ·rw[if_pos hR0]at hst
  simp (maxSteps:=2000000) (disch:=omega) [go_sem,Q9,hR0,Q0];exact⟨i+1,k+1,_,out,hst,by omega,⟨by omega,by omega⟩,g,⟨rfl,rfl⟩,⟨rfl,rfl⟩,Yp _ _⟩
 ·rw[if_neg hR0]at hst
  have hRp:0<R.length:=jl.2 hR0;simp (maxSteps:=2000000) (disch:=omega) [go_sem,Q9,hRp,htk,Q0];exact⟨⟨by omega,by omega⟩,i+1,k+1,_,_,hst,by omega,⟨by omega,by omega⟩,g+1,⟨rfl,by simp⟩,⟨rfl,by simp[Rw.cs,Q9]⟩,Yp _ _⟩
theorem Qvm {P:Program} {fc:FuncId} {op:Int} {a b:List Rw} {i k:Nat} {Y:Int} {out:List Rw} {g:Nat} (hal:a.length<=8192) (hbl:b.length<=8192) (hil:i<=a.length) (hkl:k<=b.length) (hol:out.length<=i+k) {w v:Rw} (h1:i<a.length) (h2:k<b.length) (hq:a[i]?=some w) (hr:b[k]?=some v) (c:v.y<w.y)
  {R:List Rn} (hR:CallIs P fc [.i .i64 op,.nil,Q9 v.rs] (Q9 R)) (hst:OpI op a b (i) (k+1) v.y (if R=[] then out else out++[⟨v.y,R⟩])):Ql6 P fc op a b (i,k,Y,out,g):=by
 intro κ;unfold L2h.b opS Q5b Qm9;simp only[];have hkf:((k:Int) == b.length)=false:=by simp;omega
 obtain⟨_,hq'⟩:=q8.1 hq;obtain⟨_,hr'⟩:=q8.1 hr;simp (maxSteps:=2000000) (disch:=omega) [go_sem,rwL,h1,h2,hq,hq',hr,hr',Rw.cs,hkf,show ¬ (k:Int)=b.length by omega,show ¬ w.y<=v.y by omega,show ¬ w.y=v.y by omega,show (w.y == v.y)=false by simp;omega,Q0];refine Q2 hR ?_;have htk:List.take out.length (out.map Rw.cs)=out.map Rw.cs:=qe (by simp);by_cases hR0:R=[]
 ·rw[if_pos hR0]at hst
  simp (maxSteps:=2000000) (disch:=omega) [go_sem,Q9,hR0,Q0];exact⟨i,k+1,_,out,hst,by omega,⟨by omega,by omega⟩,g,⟨rfl,rfl⟩,⟨rfl,rfl⟩,Yp _ _⟩
 ·rw[if_neg hR0]at hst
  have hRp:0<R.length:=jl.2 hR0;simp (maxSteps:=2000000) (disch:=omega) [go_sem,Q9,hRp,htk,Q0];exact⟨⟨by omega,by omega⟩,i,k+1,_,_,hst,by omega,⟨by omega,by omega⟩,g+1,⟨rfl,by simp⟩,⟨rfl,by simp[Rw.cs,Q9]⟩,Yp _ _⟩
theorem CallIs.lel {P:Program} {f:FuncId} {us vs:List V} {r:V} (hl:LeL Le us vs) (h:CallIs P f vs r):CallIs P f us r:=λhh J m w cargs hr hp =>
 h hh J m w cargs hr (LeL.pw (R:=Le) (Q:=RV J m w) (λu v c h1 h2=>h1.rv h2) hl hp)
def OpC (P:Program) (f:FuncId):Prop:=∀(op:Int) (a b:List Rw),RgV a->RgV b->RgB a->RgB b->CallIs P f [.i .i64 op,rgV a,rgV b] (rgV (opR op a b))
def Qtn (P:Program) (f:FuncId):Prop:=∀a b:List Rw,RgV a->RgV b->RgB a->RgB b->CallIs P f [rgV a,rgV b] (rgV (Jj a b))
section
variable {P:Program} (hm:P.follows .mixedOrders=true)
include hm
theorem Q1o {f fv fc:FuncId} (hf:Q5 P f (L2h.c fv fc) L2h.r L2h.n) (hv:Bb P fv) (hc:Z1a P fc):OpC P f:=by
 intro op a b ha hb ba bb;have hal:=ha.len ba;have hbl:=hb.len bb;have v1:=hv a ha ba;have v2:=hv b hb bb;refine PI hm hf ?_;unfold L2h.c;simp[go_sem,rgV];refine Q2 v1 ?_;simp[go_sem,rgV];refine Q2 v2 ?_;simp[go_sem,rgV];refine Qi [.c 3 0 0 2] (α:=Nat × Nat × Int × List Rw × Nat) (Q5b op a b) (opS op a b) (Qm9 a b) (0,0,-5000,[],0) (OpI.start ha hb ba bb) ?_ ?_
 ·simp[go_sem,opS,rwL]
 rintro⟨i,k,Y,out,g⟩ hI;unfold Q5b at hI;simp only at hI;have hil:=hI.i_le;have hkl:=hI.k_le;have hol:=hI.len;by_cases hend:i=a.length/\k=b.length
 ·obtain⟨h1,h2⟩:=hend;rw[h1,h2]at hI
  have hout:=hI.done ha hb ba bb;rw[<- hout];have ht:List.take out.length (out.map Rw.cs)=out.map Rw.cs:=qe (by simp);unfold opS;simp[go_sem,rwL,h1,h2,ht,L2h.r];rw[if_pos (Q8w out)];rfl
 have key:∀{y:Int} {i' k':Nat} {p q:V},Y<y->((i'=i/\∀w∈a.drop i,y<w.y)∨(i'=i+1/\∃w,a[i]?=some w/\w.y=y))->((k'=k/\∀w∈b.drop k,y<w.y)∨(k'=k+1/\∃w,b[k]?=some w/\w.y=y))->i+k<i'+k' ->
   Le p (Q9 (if i'=i then [] else ((a[i]?).map Rw.rs).getD []))->Le q (Q9 (if k'=k then [] else ((b[k]?).map Rw.rs).getD [])) ->
   ∃R:List Rn,CallIs P fc [.i .i64 op,p,q] (Q9 R)/\R.length<=8192/\OpI op a b i' k' y (if R=[] then out else out++[⟨y,R⟩]):=by
  intro y i' k' p q hy h1 h2 h3 hp hq;obtain⟨s1,s2,s3⟩:=hI.step ha hb ba bb hy h1 h2 h3;obtain⟨r1,r2⟩:=Qow (op:=op) ha hb ba bb y;have va:=Eo ha ba y;have vb:=Eo hb bb y;have hcc:=hc op _ _ _ va.1 vb.1 va.2 vb.2 r1 r2;rw[s2,s3]at hcc
  exact⟨_,CallIs.lel (show LeL Le [.i .i64 op,p,q] [.i .i64 op,Q9 _,Q9 _] from ⟨Le.refl _,hp,hq,trivial⟩) hcc,r1.len (Eo (Qjk op a b) (Qvs op a b) y).2,s1⟩
 have hnil:Le .nil (Q9 []):=.inl (.inl (Le0.nil 2))
 -- the row that comes next
 have hcase:(i<a.length/\k=b.length)∨(i=a.length/\k<b.length)∨(∃(h1:i<a.length) (h2:k<b.length),(a[i]).y<(b[k]).y)∨(∃(h1:i<a.length) (h2:k<b.length),(a[i]).y=(b[k]).y)∨(∃(h1:i<a.length) (h2:k<b.length),(b[k]).y<(a[i]).y):=by
  by_cases c1:i<a.length
  ·by_cases c2:k<b.length
   ·rcases (show (a[i]).y<(b[k]).y∨(a[i]).y=(b[k]).y∨(b[k]).y<(a[i]).y by omega) with c | c | c
    ·exact .inr (.inr (.inl ⟨c1,c2,c⟩))
    ·exact .inr (.inr (.inr (.inl ⟨c1,c2,c⟩)))
    ·exact .inr (.inr (.inr (.inr ⟨c1,c2,c⟩)))
   ·exact .inl ⟨c1,by omega⟩
  ·exact .inr (.inl ⟨by omega,by omega⟩)
 have hda:∀(h1:i<a.length),∀w∈a.drop i,(a[i]).y<=w.y:=λh1 w hw=>by
  rw[List.drop_eq_getElem_cons h1]at hw
  rcases List.mem_cons.1 hw with rfl | hw
  ·exact Int.le_refl _
  ·have:=Q2q ha (q9 h1) w hw;omega
 have hdb:∀(h2:k<b.length),∀w∈b.drop k,(b[k]).y<=w.y:=λh2 w hw=>by
  rw[List.drop_eq_getElem_cons h2]at hw
  rcases List.mem_cons.1 hw with rfl | hw
  ·exact Int.le_refl _
  ·have:=Q2q hb (q9 h2) w hw;omega
 rcases hcase with⟨h1,h2⟩ | ⟨h1,h2⟩ | ⟨h1,h2,c⟩ | ⟨h1,h2,c⟩ | ⟨h1,h2,c⟩
 ·have hq:a[i]?=some a[i]:=q9 h1;obtain⟨R,hR,hRl,hst⟩:=key (y:=(a[i]).y) (i':=i+1) (k':=k) (p:=Q9 (a[i]).rs) (q:=.nil) (hI.ahi _ (X7 hq)) (.inr ⟨rfl,_,hq,rfl⟩) (.inl ⟨rfl,by rw[h2];simp⟩) (by omega)
   (by rw[if_neg (by omega),hq];exact Le.refl _) (by rw[if_pos rfl];exact hnil)
  exact Qvq hal hbl hil hkl hol h1 h2 hq hR hst _
 ·have hq:b[k]?=some b[k]:=q9 h2;obtain⟨R,hR,hRl,hst⟩:=key (y:=(b[k]).y) (i':=i) (k':=k+1) (p:=.nil) (q:=Q9 (b[k]).rs) (hI.bhi _ (X7 hq)) (.inl ⟨rfl,by rw[h1];simp⟩) (.inr ⟨rfl,_,hq,rfl⟩) (by omega)
   (by rw[if_pos rfl];exact hnil) (by rw[if_neg (by omega),hq];exact Le.refl _)
  exact Qvp hal hbl hil hkl hol h1 h2 hq hR hst _
 ·have hq:a[i]?=some a[i]:=q9 h1;have hr:b[k]?=some b[k]:=q9 h2;obtain⟨R,hR,hRl,hst⟩:=key (y:=(a[i]).y) (i':=i+1) (k':=k) (p:=Q9 (a[i]).rs) (q:=.nil) (hI.ahi _ (X7 hq)) (.inr ⟨rfl,_,hq,rfl⟩) (.inl ⟨rfl,λw hw=>by have:=hdb h2 w hw;omega⟩) (by omega)
   (by rw[if_neg (by omega),hq];exact Le.refl _) (by rw[if_pos rfl];exact hnil)
  exact Qvo hal hbl hil hkl hol h1 h2 hq hr c hR hst _
 ·have hq:a[i]?=some a[i]:=q9 h1;have hr:b[k]?=some b[k]:=q9 h2;obtain⟨R,hR,hRl,hst⟩:=key (y:=(b[k]).y) (i':=i+1) (k':=k+1) (p:=Q9 (a[i]).rs) (q:=Q9 (b[k]).rs) (hI.bhi _ (X7 hr)) (.inr ⟨rfl,_,hq,c⟩) (.inr ⟨rfl,_,hr,rfl⟩) (by omega)
   (by rw[if_neg (by omega),hq];exact Le.refl _) (by rw[if_neg (by omega),hr];exact Le.refl _)
  exact Qvn hal hbl hil hkl hol h1 h2 hq hr c hR hst _
 ·have hq:a[i]?=some a[i]:=q9 h1;have hr:b[k]?=some b[k]:=q9 h2;obtain⟨R,hR,hRl,hst⟩:=key (y:=(b[k]).y) (i':=i) (k':=k+1) (p:=.nil) (q:=Q9 (b[k]).rs) (hI.bhi _ (X7 hr)) (.inl ⟨rfl,λw hw=>by have:=hda h1 w hw;omega⟩) (.inr ⟨rfl,_,hr,rfl⟩) (by omega)
   (by rw[if_pos rfl];exact hnil) (by rw[if_neg (by omega),hr];exact Le.refl _)
  exact Qvm hal hbl hil hkl hol h1 h2 hq hr c hR hst _
theorem Q97 {f fo:FuncId} (hf:Q5 P f (L28.c fo) L28.r L28.n) (ho:OpC P fo):Qtn P f:=by
 intro a b ha hb ba bb;have h:=ho 0 a b ha hb ba bb;rw[Qvr]at h
 refine PI hm hf ?_;unfold L28.c;simp[go_sem,rgV];refine Q2 h ?_;simp[go_sem,rgV,V.cells,V.okA,L28.r]
end
def msV (ms:List Mesh):V:=.l 2 (ms.map Mesh.cs)
def Qzv (P:Program) (f:FuncId):Prop:=∀(c:V) (g r:List Rw),(c=rwL g∨(c=.nil/\g=[]))->RgV g->RgB g->RgV r->RgB r->CallIs P f [.l 1 [[c],[rwL r]]] (rgV (Jj g r))
def Uz (P:Program) (f:FuncId):Prop:=∀(ms:List Mesh) (s:Sett),ms.length<=1000->CallIs P f [msV ms,s.enc] (.t [Xl (Xq ms s.pitch s.height).1,.i .i64 (Xq ms s.pitch s.height).2])
noncomputable def Bu (acc l:List (List Rw)) (j:Nat):List (List Rw):=(List.range (max acc.length j)).map λi=>if i<j then Jj (atR acc i) (atR l i) else atR acc i
theorem U0 (acc l:List (List Rw)) (j:Nat):(Bu acc l j).length=max acc.length j:=by simp[Bu]
theorem Ew {acc l:List (List Rw)} {j i:Nat} (h:i<max acc.length j):(Bu acc l j)[i]?=some (if i<j then Jj (atR acc i) (atR l i) else atR acc i):=by
 unfold Bu;rw[qp,jo h];rfl
theorem Qrp {acc l:List (List Rw)}:Bu acc l 0=acc:=by
 refine qy λi=>?_
 by_cases hi:i<acc.length
 ·rw[Ew (by omega),if_neg (by omega)];unfold atR;rw[q9 hi];rfl
 ·rw[qk (by rw[U0];omega),qk (by omega)]
theorem Qwb {acc l:List (List Rw)} (ha:Jy acc):Bu acc l l.length=Bf acc l:=by
 refine qy λi=>?_
 by_cases hi:i<max acc.length l.length
 ·rw[Ew hi,Q8e hi];split
  ·rfl
  ·have e:atR l i=[]:=by unfold atR;rw[qk (by omega)];rfl
   rw[e,Qq2 (Qkx ha i).1 (Qkx ha i).2]
 ·rw[qk (by rw[U0];omega),qk (by rw[Kw];omega)]
theorem Qwa {acc l:List (List Rw)} {j:Nat} (h:acc.length<=j):Bu acc l (j+1)=Bu acc l j++[Jj (atR acc j) (atR l j)]:=by
 unfold Bu;rw[show max acc.length (j+1)=j+1 by omega,show max acc.length j=j by omega,List.range_succ,qx];congr 1
 ·refine jv λi hi=>?_
  have:=qz.1 hi;rw[if_pos (by omega),if_pos (by omega)]
 ·simp
theorem Qw9 {acc l:List (List Rw)} {j:Nat} (h:j<acc.length):Bu acc l (j+1)=(Bu acc l j).set j (Jj (atR acc j) (atR l j)):=by
 refine qy λi=>?_
 rw[List.getElem?_set];by_cases hi:i<acc.length
 ·rw[Ew (by omega)];by_cases he:j=i
  ·subst he;rw[if_pos rfl,if_pos (show j<j+1 by omega),if_pos (show j<(Bu acc l j).length by rw[U0];omega)]
  ·rw[if_neg he,Ew (by omega)];by_cases h2:i<j
   ·rw[if_pos h2,if_pos (by omega)]
   ·rw[if_neg h2,if_neg (by omega)]
 ·rw[qk (by rw[U0];omega),if_neg (by omega),qk (by rw[U0];omega)]
section
variable {P:Program} (hm:P.follows .mixedOrders=true)
include hm
theorem Q5t {f fu:FuncId} (hf:Q5 P f (L3x.c fu) L3x.r L3x.n) (hu:Qtn P fu):Qzv P f:=by
 intro c g r hc hg bg hr br;have u1:=hu [] g RgV.nil hg RgB.nil bg;rw[Qiq hg bg]at u1
 have u2:=hu g r hg hr bg br;have hcl:Le (.a [c]) (rgV g):=by
  rcases hc with rfl | ⟨rfl,rfl⟩
  ·exact Le.refl _
  ·exact .inl (.inr ⟨_,_,rfl,rfl,Le0.nil 2,trivial⟩)
 have hn0:Le (.a [.nil]) (rgV []):=.inl (.inr ⟨_,_,rfl,rfl,Le0.nil 2,trivial⟩);have w1:CallIs P fu [.a [.nil],.a [c]] (rgV g):=CallIs.lel (show LeL Le [.a [.nil],.a [c]] [rgV [],rgV g] from ⟨hn0,hcl,trivial⟩) u1;have hcc:c.cl 3=true/\c.cl 2=true/\c.isD=true:=by
  rcases hc with rfl | ⟨rfl,rfl⟩<;>exact⟨rfl,rfl,rfl⟩
 refine PureC.is (Wg hm hf (qh rfl) ?_) (by rcases hc with rfl | ⟨rfl,rfl⟩<;>rfl);unfold L3x.c;simp[go_sem];obtain⟨F,hF⟩:∃F:Nat->V,∀i,F i=if i=0 then .nil else if i=1 then rwL g else rwL (Jj g r):=⟨_,λ_=>rfl⟩
 have F0:F 0=.nil:=by rw[hF];rfl
 have F1:F 1=rwL g:=by rw[hF];rfl
 have F2:F 2=rwL (Jj g r):=by rw[hF];rfl
 refine Q8 (α:=Nat) (λi=>i<=2)
  (λi=>⟨[(2,.p 0 1 0 0),(3,.p 1 1 0 0),(6,.l 1 [[c],[rwL r]]),(7,.i .i64 2),(8,.i .i64 i)],[.arr 1 1 [[.nil]],.arr 1 1 [[F i]]]⟩)
  (λi=>2-i) 0 (by omega) ?_ ?_
 ·simp[go_sem,F0]
 intro i hi;rcases (show i=0∨i=1∨i=2 by omega) with rfl | rfl | rfl
 ·rw[F0];simp[go_sem];refine Q2 w1 ?_;simp[go_sem,rgV,V.cells,V.okA];exact⟨1,by omega,by omega,rfl,by rw[F1];rfl,by rw[F1];rfl⟩
 ·rw[F1];simp[go_sem];refine Q2 u2 ?_;simp[go_sem,rgV,V.cells,V.okA];exact⟨2,by omega,by omega,rfl,by rw[F2];rfl,by rw[F2];rfl⟩
 ·rw[F2];simp[go_sem,rwL,rgV,L3x.r]
end
theorem Uj (s:Sett) (n:Nat):∀x∈s.cs,x.cl n=true:=λx hx=>by
 simp only[Sett.cs,List.mem_cons,List.not_mem_nil,or_false]at hx;rcases hx with rfl | rfl | rfl | rfl | rfl | rfl | rfl | rfl | rfl | rfl | rfl | rfl | rfl | rfl | rfl | rfl | rfl | rfl | rfl | rfl<;>rfl
theorem Qf1 {k h:Int} {ms:List Mesh} {i:Nat} {m:Mesh} (hq:ms[i]?=some m) {acc:List (List Rw)}:Bx k h acc (ms.drop i)=if (Xs m k h).2≠0 then ([],(Xs m k h).2) else Bx k h (Bf acc (Xs m k h).1) (ms.drop (i+1)):=by
 obtain⟨hlt,hq'⟩:=q8.1 hq;rw[List.drop_eq_getElem_cons hlt,hq']
 rfl
section
variable {P:Program} (hm:P.follows .mixedOrders=true)
include hm
theorem Q5u {f fe fp fu:FuncId} (hf:Q5 P f (L3u.c fe fp fu) L3u.r L3u.n) (he:Q0b P fe) (hp:Qo4 P fp) (hu:Qzv P fu):Uz P f:=by
 intro ms s hml;have e1:=he s.pitch 32 1024 (by omega);have e2:=he s.height 4 1024 (by omega);have hnil:∀e:Int,Le (.t [.nil,.i .i64 e]) (.t [Xl [],.i .i64 e]):=λe=>.inr ⟨_,_,rfl,rfl,.inl (Le0.nil 1),Le1.refl _,trivial⟩
 unfold Xq;cases hv1:Z1 s.pitch 32 1024 with
 | false =>
   rw[hv1]at e1
   rw[if_pos (.inl rfl)];refine CallIs.res (r:=.t [.nil,.i .i64 1]) ?_ (hnil _);refine PI hm hf ?_;unfold L3u.c;simp[go_sem,msV,Sett.enc,Sett.cs];refine Q2 e1 ?_;simp[go_sem,L3u.r]
   done
 | true =>
 cases hv2:Z1 s.height 4 1024 with
 | false =>
   rw[hv1]at e1
   rw[hv2]at e2
   rw[if_pos (.inr rfl)];refine CallIs.res (r:=.t [.nil,.i .i64 1]) ?_ (hnil _);refine PI hm hf ?_;unfold L3u.c;simp[go_sem,msV,Sett.enc,Sett.cs];refine Q2 e1 ?_;simp[go_sem];refine Q2 e2 ?_;simp[go_sem,L3u.r]
   done
 | true =>
 rw[hv1]at e1
 rw[hv2]at e2
 rw[if_neg (by simp)];obtain⟨R,hR⟩:∃R,R=Bx s.pitch s.height [] ms:=⟨_,rfl⟩
 rw[<- hR];refine CallIs.res (r:=.t [if R.2≠0 then .nil else Xl R.1,.i .i64 R.2]) ?_ (by
  by_cases h1:R.2=0
  ·rw[if_neg (by simp[h1])];exact Le.refl _
  ·rw[if_pos h1];have h2:R.1=[]:=by rw[hR]at h1 ⊢;exact Qbh h1
   rw[h2];exact hnil _)
 refine PI hm hf ?_;unfold L3u.c;simp[go_sem,msV,Sett.enc,Sett.cs];refine Q2 e1 ?_;simp[go_sem];refine Q2 e2 ?_;simp[go_sem];refine Qi [.t 6 1] (α:=Nat × Nat × List (List Rw)) (λp=>p.1<=ms.length/\Bx s.pitch s.height p.2.2 (ms.drop p.1)=R/\Jy p.2.2/\p.2.2.length<=256)
  (λp=>⟨[(3,.p 0 1 0 0),(6,.own 1 (p.2.1+1) 0 p.2.2.length),(23,msV ms),(24,.i .i64 ms.length),(25,.i .i64 p.1)],[.arr 1 20 [s.cs],.arr (p.2.1+1) 1 (p.2.2.map rgE)]⟩)
  (λp=>ms.length-p.1) (0,0,[]) ⟨Nat.zero_le _,hR.symm,by simp[Jy],by simp⟩ ?_ ?_
 ·simp[go_sem,msV,Sett.cs]
 rintro⟨i,g,acc⟩ ⟨hi,hacc,hav,hal⟩;simp only at hi hacc hav hal ⊢;by_cases hil:i=ms.length
 ·subst hil;rw[List.drop_length]at hacc
  have hR2:R=(acc,0):=hacc.symm;have ht:List.take acc.length (acc.map rgE)=acc.map rgE:=qe (by simp);rw[hR2];simp (disch:=omega) [go_sem,msV,ht,Y2,L3u.r];rw[if_pos (Q7r acc)];rfl
 have hlt:i<ms.length:=by omega
 have hq:ms[i]?=some ms[i]:=q9 hlt;rw[Qf1 hq]at hacc
 have hpc:=hp ms[i] s;have hpv:=Qg0 ms[i] s.pitch s.height;generalize ms[i]=m at *
 obtain⟨_,hq'⟩:=q8.1 hq;generalize Xs m s.pitch s.height=T at *
 obtain⟨l,e⟩:=T;simp only at hacc hpc hpv;simp only[Mesh.enc,Mesh.cs,Sett.enc,Sett.cs]at hpc;simp (disch:=omega) [go_sem,msV,hlt,hq,hq',Mesh.cs,Sett.cs,Q0];refine Q2 hpc ?_;by_cases he0:e=0
 case neg =>
  have heb:(e != 0)=true:=by simpa using he0
  rw[if_pos he0]at hacc
  rw[<- hacc];simp (disch:=omega) [go_sem,he0,heb,L3u.r]
 subst he0;rw[if_neg (by simp)]at hacc
 obtain⟨hlv,hll⟩:=hpv;simp (disch:=omega) [go_sem,Y2,Q0];refine Q8 (α:=Nat × Nat) (λp=>p.1<=l.length)
  (λp=>⟨[(3,.p 0 1 0 0),(6,.own 1 (p.2+1) 0 (Bu acc l p.1).length),(23,msV ms),(24,.i .i64 ms.length),(25,.i .i64 i),(38,Xl l),(39,.i .i64 l.length),(40,.i .i64 p.1)],[.arr 1 20 [s.cs],.arr (p.2+1) 1 ((Bu acc l p.1).map rgE)]⟩)
  (λp=>l.length-p.1) (0,g) (by simp) ?_ ?_
 ·simp[go_sem,msV,Qrp,Y2];exact⟨⟨rfl,Uj s 2⟩,Q0d _ _⟩
 rintro⟨j,g2⟩ hj;simp only at hj ⊢;have hml2:=U0 acc l j;by_cases hjl:j=l.length
 ·subst hjl;rw[Qwb hav];have hul:=Kw acc l;simp (disch:=omega) [go_sem,Y2,Q0];exact⟨i+1,g2,Bf acc l,⟨by omega,hacc,Qlj _ _,by omega⟩,by omega,⟨⟨rfl,rfl⟩,rfl,by omega⟩,rfl,⟨rfl,rfl⟩,Q0d _ _⟩
 have hjt:j<l.length:=by omega
 have hu1:l[j]?=some l[j]:=q9 hjt;have hrv:=hlv _ (qb hu1);have hatl:atR l j=l[j]:=by unfold atR;rw[hu1];rfl
 have hav2:=Qkx hav j;have happ:=Qwa (acc:=acc) (l:=l) (j:=j);have hset:=Qw9 (acc:=acc) (l:=l) (j:=j);have hget:=Ew (acc:=acc) (l:=l) (j:=j) (i:=j);rw[hatl]at happ hset
 generalize l[j]=r at *
 obtain⟨_,hu1'⟩:=q8.1 hu1;have hMj:(Bu acc l j).length<=600:=by rw[hml2];omega
 generalize Bu acc l j=M at *
 have htk:List.take M.length (M.map rgE)=M.map rgE:=qe (by simp);by_cases hjm:acc.length<=j
 ·have hMl:M.length=j:=by omega
  have hM':=happ hjm;have hat0:atR acc j=[]:=by unfold atR;rw[qk hjm];rfl
  rw[hat0]at hM' hav2
  have huc:=hu .nil [] r (.inr ⟨rfl,rfl⟩) RgV.nil RgB.nil hrv.1 hrv.2;subst hMl;simp (disch:=omega) [go_sem,Y2,hjt,hu1,hu1',rgE,htk,Jk,El,Q0];refine⟨⟨by omega,by omega⟩,?_,Qf6 (id:=4) (o:=.arr 1 1 [[.nil],[rwL r]]) (o':=.dead) rfl (λh2 hh=>Y8 (vs:=[.l 1 [[.nil],[rwL r]]]) (by simp[Zh,frz,Ys,hh,rwL,V.isD]) huc ⟨rfl,rfl⟩) (.inr (by simp)) (by rfl) ?_⟩
  ·rfl
  simp (disch:=omega) [go_sem,rgV,V.cells,V.okA,Jk,El,Q0];exact⟨M.length+1,by omega,by omega,g2+1,⟨⟨rfl,by rw[hM'];simp⟩,.inr rfl,by omega⟩,Uj s 2,⟨rfl,by rw[hM'];simp[rgE,rwL]⟩,Q0d _ _⟩
 ·have hMl:M.length=acc.length:=by omega
  have hM':=hset (by omega);have hg:=hget (by omega);rw[if_neg (by omega)]at hg
  have huc:=hu (rwL (atR acc j)) (atR acc j) r (.inl rfl) hav2.1 hav2.2 hrv.1 hrv.2;have hjn:((j:Int) == acc.length)=false:=by simp;omega
  have hjn2:¬ (j:Int)=acc.length:=by omega
  have hjt2:j<acc.length:=by omega
  have hjt3:j<M.length:=by omega
  obtain⟨_,hg'⟩:=q8.1 hg;simp (disch:=omega) [go_sem,Y2,hjt,hu1,hu1',rgE,hMl,hjn,hjn2,hjt2,hjt3,hg,hg',Q0];refine⟨⟨rfl,rfl⟩,Qf6 (id:=3) (o:=.arr 1 1 [[rwL (atR acc j)],[rwL r]]) (o':=.dead) rfl (λh2 hh=>Y8 (vs:=[.l 1 [[rwL (atR acc j)],[rwL r]]]) (by simp[Zh,frz,Ys,hh,rwL,V.isD]) huc ⟨rfl,rfl⟩) (.inr (by simp)) (by rfl) ?_⟩
  simp (disch:=omega) [go_sem,rgV,V.cells,V.okA,rgE,hMl,hjt2,hjt3,hg,hg',Q0];exact⟨j+1,by omega,by omega,g2,⟨⟨rfl,by rw[hM'];simp[hMl]⟩,.inr rfl,by omega⟩,Uj s 2,⟨rfl,by rw[hM',List.map_set];rfl⟩,λ_ _=>rfl⟩
end
def atV (l:List (List Rw)) (i:Nat):V:=match l[i]? with
 | some g=>rgV g
 | none=>.a [.nil]
theorem atV_le (l:List (List Rw)) (i:Nat):Le (atV l i) (rgV (atR l i)):=by
 unfold atV atR;cases l[i]? with
 | some g=>exact Le.refl _
 | none=>exact .inl (.inr ⟨_,_,rfl,rfl,Le0.nil 2,trivial⟩)
def AtHC (P:Program) (f:FuncId):Prop:=∀(h:List O) (id g:Nat) (l:List (List Rw)) (i:Nat),l.length<=1000->i<=1000000->h[id]?=some (.arr g 1 (l.map rgE))->ACall P f [.own id g 0 l.length,.i .i64 i] h (λr h'=>r=atV l i/\h'=h)
theorem Q1m (l:List (List Rw)) (N g:Nat):(O.arr g 1 (l.map rgE)).cl N:=λel hel x hx=>by
 obtain⟨w,hw,rfl⟩:=qo.1 hel;exact Q0d l _ w hw x hx
theorem Qq3 {a l:List (List Rw)} {j:Nat} (h:j<max a.length l.length):(Bf a l).take (j+1)=(Bf a l).take j++[Jj (atR a j) (atR l j)]:=Q6 (Q8e h)
section
variable {P:Program} (hm:P.follows .mixedOrders=true)
include hm
theorem Qft {f:FuncId} (hf:Q5 P f L2o.c L2o.r L2o.n):AtHC P f:=by
 intro h id g l i hl hi hid;refine Kh λhcl=>?_
 refine Uw hm hf (qh rfl) ?_;unfold L2o.c atV;generalize hK:Qbl h.length L2o.r _=K;obtain⟨hlt,hid'⟩:=q8.1 hid;have gid:∀x:List O,(h++x)[id]?=some (.arr g 1 (l.map rgE)):=λx=>by rw[qd hlt];exact hid
 have fin:∀(env:List (Nat × V)) (c:V),get 4 env=.p h.length 1 0 0->(c=.nil∨∃q,c=rwL q)->(match l[i]? with | some g=>rgV g | none=>.a [.nil])=.a [c]->K .r ⟨env,h++[.arr 1 1 [[c]]]⟩:=by
  intro env c h1 h2 h3;rw[<- hK,Q87];refine⟨[.a [c]],h,?_,rfl,?_,by simp,by simp,?_,?_⟩
  ·simp[L2o.r,X6,h1,Qc,X0,Jm]
  ·rcases h2 with rfl | ⟨q,rfl⟩<;>simp[rwL,V.cl,V.cl1,V.cl0]
  ·have:=Qn (n:=h.length) (a:=[O.arr 1 1 [[c]]]) (b:=[]) (h:=h) (λo1 h1=>hcl _ (Nat.le_refl _) o1 h1) (by trivial)
   rwa [List.append_nil]at this
  ·exact⟨by rw[h3];rfl,rfl⟩
 by_cases hlt2:i<l.length
 ·have hq:l[i]?=some l[i]:=q9 hlt2;generalize l[i]=w at *
  obtain⟨_,hq'⟩:=q8.1 hq;rw[hq]at fin
  simp (disch:=omega) [go_sem,gid,hlt2,hq,hq',rgE,Qc,Qm,show ¬ (i:Int)<0 by omega,show ¬ l.length<=i by omega];exact fin _ _ (by simp[go_sem]) (.inr ⟨w,rfl⟩) rfl
 ·have hq:l[i]?=none:=qk (by omega);rw[hq]at fin
  simp (disch:=omega) [go_sem,gid,hlt2,Qc,Qm,show ¬ (i:Int)<0 by omega,show l.length<=i by omega];exact fin _ _ (by simp[go_sem]) (.inl rfl) rfl
theorem Q60 {f fe fp fa fu:FuncId} (hf:Q5 P f (L2s.c fe fp fa fu) L2s.r L2s.n) (he:Q0b P fe) (hp:Qi3 P fp) (ha:AtHC P fa) (ha2:AtC P fa) (hu:Qtn P fu):Uz P f:=by
 intro ms s hml;have e1:=he s.pitch 32 1024 (by omega);have e2:=he s.height 4 1024 (by omega);have hnil:∀e:Int,Le (.t [.nil,.i .i64 e]) (.t [Xl [],.i .i64 e]):=λe=>.inr ⟨_,_,rfl,rfl,.inl (Le0.nil 1),Le1.refl _,trivial⟩
 unfold Xq;cases hv1:Z1 s.pitch 32 1024 with
 | false =>
   rw[hv1]at e1
   rw[if_pos (.inl rfl)];refine CallIs.res (r:=.t [.nil,.i .i64 1]) ?_ (hnil _);refine PI hm hf ?_;unfold L2s.c;simp[go_sem,msV,Sett.enc,Sett.cs];refine Q2 e1 ?_;simp[go_sem,L2s.r]
   done
 | true =>
 cases hv2:Z1 s.height 4 1024 with
 | false =>
   rw[hv1]at e1
   rw[hv2]at e2
   rw[if_pos (.inr rfl)];refine CallIs.res (r:=.t [.nil,.i .i64 1]) ?_ (hnil _);refine PI hm hf ?_;unfold L2s.c;simp[go_sem,msV,Sett.enc,Sett.cs];refine Q2 e1 ?_;simp[go_sem];refine Q2 e2 ?_;simp[go_sem,L2s.r]
   done
 | true =>
 rw[hv1]at e1
 rw[hv2]at e2
 rw[if_neg (by simp)];obtain⟨R,hR⟩:∃R,R=Bx s.pitch s.height [] ms:=⟨_,rfl⟩
 rw[<- hR];refine CallIs.res (r:=.t [if R.2≠0 then .nil else Xl R.1,.i .i64 R.2]) ?_ (by
  by_cases h1:R.2=0
  ·rw[if_neg (by simp[h1])];exact Le.refl _
  ·rw[if_pos h1];have h2:R.1=[]:=by rw[hR]at h1 ⊢;exact Qbh h1
   rw[h2];exact hnil _)
 refine PI hm hf ?_;unfold L2s.c;simp[go_sem,msV,Sett.enc,Sett.cs];refine Q2 e1 ?_;simp[go_sem];refine Q2 e2 ?_;simp[go_sem];refine Qi [.t 6 1] (α:=Nat × List O × Nat × List (List Rw)) (λp=>p.1<=ms.length/\Bx s.pitch s.height p.2.2.2 (ms.drop p.1)=R/\Jy p.2.2.2/\p.2.2.2.length<=256/\(∃t,p.2.1=.arr 1 20 [s.cs]::t)/\∀N,p.2.1.length<=N->∀o∈p.2.1,o.cl N)
  (λp=>⟨[(0,msV ms),(3,.p 0 1 0 0),(6,.own p.2.1.length (p.2.2.1+1) 0 p.2.2.2.length),(7,.i .i64 p.1)],p.2.1++[.arr (p.2.2.1+1) 1 (p.2.2.2.map rgE)]⟩)
  (λp=>ms.length-p.1) (0,[.arr 1 20 [s.cs]],0,[]) ⟨Nat.zero_le _,hR.symm,by simp[Jy],by simp,⟨[],rfl⟩,λN _ o ho=>by
   rw[qn.1 ho];intro el hel x hx;rw[qn.1 hel]at hx
   exact Uj s N x hx⟩ ?_ ?_
 ·simp[go_sem,msV,Sett.cs]
 rintro⟨i,h,g,acc⟩ ⟨hi,hacc,hav,hal,⟨ht,hh⟩,hcl⟩;simp only at hi hacc hav hal hh hcl ⊢;have hg0:∀x:List O,(h++x)[0]?=some (.arr 1 20 [s.cs]):=λx=>by rw[hh];rfl
 have hwk:∀(a:List O) (N:Nat),h.length<=N->WeakH N (h++a) h:=λa N hN=>by
  have:=Qn (n:=N) (a:=a) (b:=[]) (h:=h) (λo1 h1=>hcl N hN o1 h1) (by cases a<;>trivial)
  rwa [List.append_nil]at this
 by_cases hil:i=ms.length
 ·subst hil;rw[List.drop_length]at hacc
  have hR2:R=(acc,0):=hacc.symm;have ht:List.take acc.length (acc.map rgE)=acc.map rgE:=qe (by simp);rw[hR2];simp (disch:=omega) [go_sem,msV,ht,Qc,Y2,L2s.r];rw[if_pos (Q7r acc)];rfl
 have hlt:i<ms.length:=by omega
 have hq:ms[i]?=some ms[i]:=q9 hlt;rw[Qf1 hq]at hacc
 have hpc:=hp ms[i] s hv2;have hpv:=Qg0 ms[i] s.pitch s.height;generalize ms[i]=m at *
 obtain⟨_,hq'⟩:=q8.1 hq;generalize Xs m s.pitch s.height=T at *
 obtain⟨l,e⟩:=T;simp only at hacc hpc hpv;simp only[Mesh.enc,Sett.enc]at hpc;have m1:m.cs.length=2:=rfl;have m2:List.take 2 m.cs=m.cs:=rfl;have m3:List.flatMap V.ids1 m.cs=[]:=rfl;have s1:s.cs.length=20:=rfl;have s2:List.take 20 s.cs=s.cs:=rfl;have s3:List.flatMap V.ids1 s.cs=[]:=rfl;simp (disch:=omega) [go_sem,msV,hlt,hq,hq',hg0,m1,m2,m3,s1,s2,s3,Q0];refine Qa hpc ?_
 by_cases he0:e=0
 case neg =>
  have heb:(e != 0)=true:=by simpa using he0
  rw[if_pos he0]at hacc
  rw[<- hacc];simp (disch:=omega) [go_sem,he0,heb,L2s.r]
 subst he0;rw[if_neg (by simp)]at hacc
 obtain⟨hlv,hll⟩:=hpv;simp (disch:=omega) [go_sem,Y2,Q0];obtain⟨U,hU⟩:∃U:Nat->List (List Rw),∀j,U j=(Bf acc l).take j:=⟨_,λ_=>rfl⟩
 have hU0:U 0=[]:=by rw[hU];rfl
 obtain⟨M,hM⟩:∃M,M=max acc.length l.length:=⟨_,rfl⟩
 have hUn:U M=Bf acc l:=by rw[hU,hM];exact qe (by rw[Kw];omega)
 have hMb:M<=256:=by omega
 have hUl:∀j,j<=M->(U j).length=j:=λj hj=>by rw[hU,qv,Kw];omega
 refine Qi [.t 10 1] (α:=Nat × Nat) (λp=>p.1<=M)
  (λp=>⟨[(0,msV ms),(3,.p 0 1 0 0),(6,.own h.length (g+1) 0 acc.length),(7,.i .i64 i),(8,Xl l),(10,.own (h.length+1) (p.2+1) 0 (U p.1).length),(11,.i .i64 p.1)],h++[.arr (g+1) 1 (acc.map rgE),.arr (p.2+1) 1 ((U p.1).map rgE)]⟩)
  (λp=>M-p.1) (0,0) (by simp) ?_ ?_
 ·simp[go_sem,msV,Y2,hU0];exact Qn (λo ho=>hcl _ (by omega) o ho) ⟨.inr ⟨rfl,λel hel x hx=>by
   obtain⟨w,hw,rfl⟩:=qo.1 hel;exact Q0d acc _ w hw x hx⟩,.inr ⟨rfl,λel hel=>by simp at hel⟩,trivial⟩
 rintro⟨j,g2⟩ hj;simp only at hj ⊢;have hUj:=hUl j hj;have hmx:(if acc.length<l.length then (l.length:Int) else (acc.length:Int))=(M:Int):=by rw[hM];split<;>omega
 by_cases hjl:j=M
 ·subst hjl;rw[hUn];simp (disch:=omega) [go_sem,Y2,hmx,Qc,Q0];have hul:=Kw acc l;exact⟨i+1,h++[.arr (g+1) 1 (acc.map rgE)],g2,Bf acc l,⟨by omega,hacc,Qlj _ _,by omega,⟨ht++[.arr (g+1) 1 (acc.map rgE)],by rw[hh];rfl⟩,λN hN o ho=>by
   have q:o.cl N:=by
    rcases qg.1 ho with h1 | h1
    ·exact hcl N (by rw[j7]at hN;omega) o h1
    ·rw[qn.1 h1];exact Q1m acc N (g+1)
   cases o with
   | mp es=>exact λa b hab=>q (a,b) hab
   | md es=>exact λa b hab=>q (a,b) hab
   | arr g sz els=>exact q
   | it mid since seen=>exact q
   | dead=>trivial⟩,by omega,by simp,⟨rfl,⟨by simp,rfl,rfl⟩,by omega⟩,by
   rw[j6];exact Qn (λo ho=>hcl _ (by simp;omega) o ho) ⟨.inr ⟨rfl,Q1m _ _ _⟩,.inr ⟨rfl,Q1m _ _ _⟩,trivial⟩⟩
 have hjt:j<M:=by omega
 have hUs:U (j+1)=U j++[Jj (atR acc j) (atR l j)]:=by rw[hU,hU];exact Qq3 (by omega)
 have c1:=ha (h++[.arr (g+1) 1 (acc.map rgE),.arr (g2+1) 1 ((U j).map rgE)]) h.length (g+1) acc j (by omega) (by omega) (Qc _ _);have c2:=ha2 l j (by omega) (by omega);have hav2:=Qkx hav j;have hlv2:=Qkx hlv j;have c3:=hu (atR acc j) (atR l j) hav2.1 hlv2.1 hav2.2 hlv2.2
 have c4:CallIs P fu [atV acc j,rgV (atR l j)] (rgV (Jj (atR acc j) (atR l j))):=CallIs.lel (show LeL Le [atV acc j,rgV (atR l j)] [rgV (atR acc j),rgV (atR l j)] from ⟨atV_le _ _,Le.refl _,trivial⟩) c3;generalize Jj (atR acc j) (atR l j)=q at *
 have htk:List.take j ((U j).map rgE)=(U j).map rgE:=qe (by simp[hUj]);simp (disch:=omega) [go_sem,Y2,hmx,Qc,hjt,Q0];refine Qt c1 ?_;simp (disch:=omega) [go_sem,Y2,Q0];refine Q2 c2 ?_;simp (disch:=omega) [go_sem,Q0];refine Q2 c4 ?_;simp (disch:=omega) [go_sem,rgV,V.cells,V.okA,Qf,Qk,Qc,hUj,htk,Q0]
 exact⟨⟨by omega,by omega⟩,j+1,by omega,by omega,g2+1,⟨.inr rfl,⟨rfl,by rw[hUs];simp[hUj]⟩,by omega⟩,by
  rw[hUs,qx];exact Qn (λo ho=>hcl _ (by omega) o ho) ⟨.inr ⟨rfl,Q1m _ _ _⟩,.inr ⟨rfl,by rw[<- qx];exact Q1m _ _ _⟩,trivial⟩⟩
end
def Qpf (m:Mesh):Bool:=decide (m.verts.length<=60) && decide (m.tris.length<=60)
def Qob (P:Program) (f:FuncId):Prop:=∀m:Mesh,CallIs P f [m.enc] (.b (Qpf m))
def LowC (P:Program) (f:FuncId):Prop:=∀(ms:List Mesh) (s:Sett),PureC P f [msV ms,s.enc] λr=>∃b,r=.b b/\(b=true->ms.length<=4)
section
variable {P:Program} (hm:P.follows .mixedOrders=true)
include hm
theorem Qgs {f:FuncId} (hf:Q5 P f L09.c L09.r L09.n):Qob P f:=by
 intro m;refine PI hm hf ?_;unfold L09.c Qpf;by_cases h1:m.verts.length<=60
 ·by_cases h2:m.tris.length<=60
  ·simp[go_sem,Mesh.enc,Mesh.cs,vsV,tsV,h1,h2,show (m.verts.length:Int)<=60 by omega,show (m.tris.length:Int)<=60 by omega,L09.r]
  ·simp[go_sem,Mesh.enc,Mesh.cs,vsV,tsV,h1,h2,show (m.verts.length:Int)<=60 by omega,show ¬ (m.tris.length:Int)<=60 by omega,L09.r]
 ·simp[go_sem,Mesh.enc,Mesh.cs,vsV,tsV,h1,show ¬ (m.verts.length:Int)<=60 by omega,L09.r]
theorem Qgr {f ff:FuncId} (hf:Q5 P f (L0a.c ff) L0a.r L0a.n) (hff:Qob P ff):LowC P f:=by
 intro ms s;refine Wg hm hf (qh rfl) ?_;unfold L0a.c;simp[go_sem,msV,Sett.enc];refine Q8 (α:=Nat) (λi=>i<=ms.length/\i<=5)
  (λi=>⟨[(0,msV ms),(3,.p 0 1 0 0),(5,.i .i64 i)],[.arr 1 20 [s.cs]]⟩)
  (λi=>5-i) 0 ⟨Nat.zero_le _,Nat.zero_le _⟩ ?_ ?_
 ·simp[go_sem,msV];exact⟨rfl,Uj s 1⟩
 rintro i ⟨hi,hi5⟩;by_cases hend:i<ms.length/\i<5
 case neg =>
  by_cases h1:i<ms.length
  ·have h2:i=5:=by omega
   subst h2;have h1z:(5:Int)<ms.length:=by omega
   simp[go_sem,msV,h1,h1z,L0a.r];omega
  ·have h2:i=ms.length:=by omega
   subst h2;simp[go_sem,msV,L0a.r];omega
 obtain⟨hlt,hlt5⟩:=hend;have hq:ms[i]?=some ms[i]:=q9 hlt;have hfc:=hff ms[i];generalize ms[i]=m at *
 obtain⟨_,hq'⟩:=q8.1 hq;simp only[Mesh.enc,Mesh.cs]at hfc;have hlt5z:(i:Int)<5:=by omega
 simp (disch:=omega) [go_sem,msV,hlt,hlt5,hlt5z,hq,hq',Mesh.cs,Q0];refine Q2 hfc ?_;cases hfw:Qpf m with
 | false =>
   rw[hfw]at hfc
   simp[go_sem,L0a.r]
 | true =>
   have h60:m.verts.length<=60:=by
    unfold Qpf at hfw;simp only[Bool.and_eq_true,decide_eq_true_eq]at hfw;exact hfw.1
   simp[go_sem];refine Q8 (α:=Nat) (λj=>j<=m.verts.length)
    (λj=>⟨[(0,msV ms),(3,.p 0 1 0 0),(5,.i .i64 i),(6,.i .i64 j)],[.arr 1 20 [s.cs]]⟩)
    (λj=>m.verts.length-j) 0 (Nat.zero_le _) ?_ ?_
   ·simp[go_sem,msV];exact Uj s 1
   intro j hj;by_cases hjl:j=m.verts.length
   ·subst hjl;simp (disch:=omega) [go_sem,msV,hlt,hq,hq',Mesh.cs,vsV,Q0];exact⟨i+1,⟨by omega,by omega⟩,by omega,by omega,Uj s 1⟩
   have hjt:j<m.verts.length:=by omega
   have hv:m.verts[j]?=some m.verts[j]:=q9 hjt;generalize m.verts[j]=v at *
   obtain⟨_,hv'⟩:=q8.1 hv;have hs1:s.cs[1]?=some (.i .i64 s.height):=rfl;have hnext:∃x',x'<=m.verts.length/\m.verts.length-x'<m.verts.length-j/\(j:Int)+1=x':=⟨j+1,by omega,by omega,by omega⟩
   generalize hW:IntKind.i64.wrap (40*s.height)=W;by_cases c1:4<=s.height
   ·by_cases c2:W<v.z
    ·by_cases c3:v.z<=65536
     ·simp (disch:=omega) [go_sem,msV,hlt,hq,hq',Mesh.cs,Sett.cs,vsV,hjt,hv,hv',vcs,hs1,hW,c1,c2,c3,Q0,L0a.r]
     ·simp (disch:=omega) [go_sem,msV,hlt,hq,hq',Mesh.cs,Sett.cs,vsV,hjt,hv,hv',vcs,hs1,hW,c1,c2,c3,Q0];exact⟨j+1,by omega,by omega,by omega⟩
    ·simp (disch:=omega) [go_sem,msV,hlt,hq,hq',Mesh.cs,Sett.cs,vsV,hjt,hv,hv',vcs,hs1,hW,c1,c2,Q0];exact⟨j+1,by omega,by omega,by omega⟩
   ·simp (disch:=omega) [go_sem,msV,hlt,hq,hq',Mesh.cs,Sett.cs,vsV,hjt,hv,hv',vcs,hs1,hW,c1,Q0];exact⟨j+1,by omega,by omega,by omega⟩
theorem StackSlices_ok {f fl fa fs fr fe:FuncId} (hf:Q5 P f (L08.c fl fa fs fr fe) L08.r L08.n) (hl:LowC P fl) (ha:Qof P fa) (hs:Uz P fs) (hr:Uz P fr) (he:Qi0 P fe) (ms:List Mesh) (s:Sett) :
  PureC P f [msV ms,s.enc] (·=.b true):=by
 have c0:=hl ms s;have hv:=Qqx ms s.pitch s.height;refine Wg hm hf (qh rfl) ?_;unfold L08.c;have s1:s.cs.length=20:=rfl;have s2:List.take 20 s.cs=s.cs:=rfl;have s3:List.flatMap V.ids1 s.cs=[]:=rfl;simp[go_sem,Sett.enc,s1,s2];refine (c0.lift rfl _).mono ?_;rintro r h' ⟨⟨b,rfl,hb⟩,rfl⟩;cases b with
 | false =>
   simp[go_sem];refine Q2 ha ?_;simp[go_sem,L08.r]
 | true =>
   have h4:=hb rfl;have c1:=hs ms s (by omega);have c2:=hr ms s (by omega);have c3:=he _ _ hv.1 hv.1 (by omega) (by omega);rw[decide_eq_true rfl]at c3
   generalize Xq ms s.pitch s.height=S at *
   obtain⟨g,e⟩:=S;simp only[Sett.enc]at c1 c2 c3;simp[go_sem,s1,s2];refine Q2 c1 ?_;simp[go_sem,s1,s2];refine Q2 c2 ?_;simp[go_sem];refine Q2 c3 ?_;simp[go_sem];refine Q2 ha ?_;simp[go_sem,L08.r]
end
def Qmv (U:List Int) (x:Int):List Int:=if x∈U then U else U++[x]
def Qmw (U:List Int) (t:T3):List Int:=Qmv (Qmv (Qmv U t.a) t.b) t.c
def Ws (ts:List T3):List Int:=ts.foldl Qmw []
theorem Qlh (ts:List T3) (t:T3):Ws (ts++[t])=Qmw (Ws ts) t:=by simp[Ws]
theorem Qgy {U:List Int} (h:U.Nodup) (x:Int):(Qmv U x).Nodup/\(∀v,v∈Qmv U x↔v∈U∨v=x)/\(Qmv U x).length<=U.length+1:=by
 unfold Qmv;split
 ·rename_i hx;exact⟨h,λv=>⟨.inl,λhh=>hh.elim id (λe=>e ▸ hx)⟩,by omega⟩
 ·rename_i hx;refine⟨?_,λv=>by simp,by simp⟩;rw[List.nodup_append];exact⟨h,by simp,λa ha b hb=>by simp at hb;subst hb;rintro rfl;exact hx ha⟩
theorem insT_ok {U:List Int} (h:U.Nodup) (t:T3):(Qmw U t).Nodup/\(∀v,v∈Qmw U t↔v∈U∨v=t.a∨v=t.b∨v=t.c)/\(Qmw U t).length<=U.length+3:=by
 obtain⟨a1,a2,a3⟩:=Qgy h t.a;obtain⟨b1,b2,b3⟩:=Qgy a1 t.b;obtain⟨c1,c2,c3⟩:=Qgy b1 t.c;refine⟨c1,λv=>?_,by unfold Qmw;omega⟩;unfold Qmw;rw[c2,b2,a2,or_assoc,or_assoc]
theorem Qub (ts:List T3):(Ws ts).Nodup/\(∀v,v∈Ws ts↔∃t∈ts,v=t.a∨v=t.b∨v=t.c)/\(Ws ts).length<=3*ts.length:=by
 have key:∀k,k<=ts.length->(Ws (ts.take k)).Nodup/\(∀v,v∈Ws (ts.take k)↔∃t∈ts.take k,v=t.a∨v=t.b∨v=t.c)/\(Ws (ts.take k)).length<=3*k:=by
  intro k
  induction k with
  | zero=>intro _;simp[Ws]
  | succ k ih =>
    intro hk;obtain⟨h1,h2,h3⟩:=ih (by omega);have hp:ts[k]?=some ts[k]:=q9 (by omega);rw[Q6 hp,Qlh];obtain⟨i1,i2,i3⟩:=insT_ok h1 ts[k];refine⟨i1,λv=>?_,by omega⟩;rw[i2,h2];constructor
    ·rintro (⟨t,ht,hv⟩ | hv)
     ·exact⟨t,qg.2 (.inl ht),hv⟩
     ·exact⟨ts[k],qg.2 (.inr (by simp)),hv⟩
    ·rintro⟨t,ht,hv⟩;rcases qg.1 ht with h | h
     ·exact .inl ⟨t,h,hv⟩
     ·simp at h;subst h;exact .inr hv
 have:=key ts.length (Nat.le_refl _)
 rwa [qi]at this
def Mesh.euler (m:Mesh):Int:=if m.check=0 then ((Ws m.tris).length:Int)-m.edgesL.length+m.tris.length else 0
theorem Qji {l k:List Int} (hl:l.Nodup) (hk:k.Nodup) (h:∀v,v∈l↔v∈k):l.Perm k:=by
 rw[List.perm_iff_count];intro v;have c:∀{l:List Int},l.Nodup->l.count v=if v∈l then 1 else 0:=λ{l} hl=>by
  by_cases he:v∈l
  ·rw[if_pos he];have h1:=List.count_pos_iff.2 he;have h2:=List.nodup_iff_count.1 hl v;omega
  ·rw[if_neg he];exact List.count_eq_zero.2 he
 rw[c hl,c hk];by_cases hv:v∈l
 ·rw[if_pos hv,if_pos ((h v).1 hv)]
 ·rw[if_neg hv,if_neg (λhh=>hv ((h v).2 hh))]
end Go.Abs
