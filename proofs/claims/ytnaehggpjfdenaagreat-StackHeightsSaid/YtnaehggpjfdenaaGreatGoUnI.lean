/- What the operations on regions do to values, the program's way: regions. -/
import Derived.Test.YtnaehggpjfdenaaGreatGoUnH
set_option linter.unusedVariables false
set_option linter.unusedSimpArgs false
set_option maxHeartbeats 16000000
set_option maxRecDepth 20000
namespace Go.Abs
def Qfb (P:Program) (f:FuncId):Prop:=∀xs:List Int,xs.length<4611686018427387904->xs.Pairwise (λx y=>x<=y)->∃ys zs:List Int,ys.Pairwise (λx y=>x<y)/\(∀x,x∈ys↔x∈xs)/\ys.length<=xs.length/\zs.length=xs.length/\zs.take ys.length=ys /\
 ∀(h:List O) (id gen:Nat),h[id]?=some (.arr gen 1 (xs.map λx=>[.i .i64 x]))->ACall P f [.own id gen 0 xs.length] h (λr h'=>r=.own id gen 0 ys.length/\h'=h.set id (.arr gen 1 (zs.map λx=>[.i .i64 x])))
def Q35 (U:List Rw) (D:List Int):List Rw:=(D.map λy=>Rw.mk y (Xn U y)).filter λw=>decide (w.rs≠[])
theorem Qd9 (U:List Rw) (D:List Int) (y:Int):Q35 U (D++[y])=Q35 U D++(if Xn U y=[] then [] else [⟨y,Xn U y⟩]):=by
 unfold Q35
 rw[qw,List.filter_append]
 congr 1
 by_cases h:Xn U y=[]
 ·simp[h]
 ·simp[h]
theorem Qht (U:List Rw) (D:List Int):(Q35 U D).length<=D.length:=by
 unfold Q35
 refine Nat.le_trans (j8 _ _) ?_
 simp
theorem Qld {U:List Rw} (hU:RgV U) (hb:RgB U) {D:List Int} (hD:D.Pairwise λx y=>x<y) (hm:∀w∈U,w.y∈D):Q35 U D=U:=by
 refine RgV.ext ⟨λw hw=>?_,λw hw=>?_,?_⟩ hU λy x=>?_
 ·obtain⟨h1,_⟩:=qu.1 hw
  obtain⟨y,_,rfl⟩:=qo.1 h1
  exact(Q7n hU hb y).1
 ·simpa using(qu.1 hw).2
 ·refine List.Pairwise.filter _ ?_
  rw[jd]
  exact hD
 ·constructor
  ·rintro⟨w,hw,rfl,hx⟩
   obtain⟨h1,_⟩:=qu.1 hw
   obtain⟨y,_,rfl⟩:=qo.1 h1
   exact(Iv hU).1 hx
  ·intro h
   have h2:=(Iv hU).2 h
   obtain⟨w,hw,rfl,_⟩:=h
   refine⟨⟨w.y,Xn U w.y⟩,qu.2 ⟨qo.2 ⟨w.y,hm w hw,rfl⟩,?_⟩,rfl,h2⟩
   simp only[decide_eq_true_eq]
   intro h0
   rw[h0]at h2
   exact Qk _ h2
theorem Qgp {a b:List Rw} (ba:RgB a) (bb:RgB b) {w:Rw} (hw:w∈K0 a b):w.y∈a.map Rw.y++b.map Rw.y:=by
 obtain⟨x,hx⟩:=((W1 a b).rs w hw).some ((W1 a b).ne w hw)
 rcases (Q2a ba bb).1 ⟨w,hw,rfl,hx⟩ with⟨v,hv,he,_⟩ | ⟨v,hv,he,_⟩
 ·exact qg.2 (.inl (qo.2 ⟨v,hv,he⟩))
 ·exact qg.2 (.inr (qo.2 ⟨v,hv,he⟩))
theorem Qki {a b:List Rw} (ha:RgV a) (hb:RgV b) (ba:RgB a) (bb:RgB b) (y x:Int):Qf (Xn (K0 a b) y) x↔Qf (Xn a y) x∨Qf (Xn b y) x:=by
 rw[Iv (W1 a b),Iv ha,Iv hb,Q2a ba bb]
def Q4i (P:Program) (f:FuncId):Prop:=∀fu,Qq P fu=true->Q2e P fu->∀a b:List Rw,RgV a->RgV b->RgB a->RgB b->CallIs P f [rgV a,rgV b,.f fu []] (rgV (K0 a b))
section
variable {P:Program} (hm:P.follows .mixedOrders=true)
include hm
theorem I8 {f fv fs fk fr fc:FuncId} (hf:Q9 P f (L10.c fv fs fk fr fc) L10.r L10.n) (hv:Q9d P fv) (hs:Q97 P fs) (hk:Qfb P fk) (hr:Qpi P fr) (hc:Q9o P fc):Q4i P f:=by
 intro fu hcb hu a b ha hb ba bb
 have hal:=ha.len ba
 have hbl:=hb.len bb
 have v1:=hv a ha ba
 have v2:=hv b hb bb
 refine PureC.is (Q8 hm hf (qh rfl) ?_) rfl
 unfold L10.c
 simp[go_sem,rgV]
 refine Q5 v1 ?_
 simp[go_sem,rgV]
 refine Q5 v2 ?_
 simp[go_sem,rgV]
 obtain⟨Y,hY⟩:∃Y:Nat->List Int,∀k,Y k=if k=0 then [] else if k=1 then a.map Rw.y else a.map Rw.y++b.map Rw.y:=⟨_,λ_=>rfl⟩
 have hYl:∀k,(Y k).length<=16384:=λk=>by rw[hY];split<;>(try split)<;>simp<;>omega
 refine Qz [.t 7 1] (α:=Nat × Nat) (λp=>p.1<=2)
  (λp=>⟨[(2,.f fu []),(3,.p 0 1 0 0),(4,.p 1 1 0 0),(6,.p 2 1 0 0),(7,.own 3 (p.2+1) 0 (Y p.1).length),(27,.a [rwL a,rwL b]),(28,.i .i64 p.1)],[.arr 1 1 [[rwL a]],.arr 1 1 [[rwL b]],.arr 1 1 [[.nil]],.arr (p.2+1) 1 ((Y p.1).map iel)]⟩)
  (λp=>2-p.1) (0,0) (by simp) ?_ ?_
 ·simp[go_sem,rwL,hY]
 rintro⟨k,gn⟩ hk2
 simp only at hk2 ⊢
 by_cases hkl:k<2
 ·have key:∃g:List Rw,([rwL a,rwL b]:List V)[k]?=some (rwL g)/\g.length<=8192/\Y (k+1)=Y k++g.map Rw.y:=by
   rcases (show k=0∨k=1 by omega) with rfl | rfl
   ·exact⟨a,rfl,hal,by rw[hY,hY];simp⟩
   ·exact⟨b,rfl,hbl,by rw[hY,hY];simp⟩
  obtain⟨g,hg,hgl,hYs⟩:=key
  have hYk:=hYl k
  have hkz:(k:Int)<2:=by omega
  have hdr:List.take 1 (List.drop k [V.l 2 (a.map Rw.cs),V.l 2 (b.map Rw.cs)])=[.l 2 (g.map Rw.cs)]:=by
   show List.take 1 (List.drop k [rwL a,rwL b])=[rwL g]
   rcases (show k=0∨k=1 by omega) with rfl | rfl
   ·simp at hg ⊢;exact hg
   ·simp at hg ⊢;exact hg
  simp (disch:=omega) [go_sem,rwL,hkl,hkz,hg,hdr,show k<=2 by omega,show 1<=2-k by omega,Q3]
  obtain⟨S,hS⟩:∃S:Nat->List Int,∀j,S j=Y k++(g.take j).map Rw.y:=⟨_,λ_=>rfl⟩
  have hS0:S 0=Y k:=by rw[hS];simp
  have hSn:S g.length=Y (k+1):=by rw[hS,qi,hYs]
  have hSl:∀j,(S j).length<=30000:=λj=>by rw[hS,j3,List.length_map,qv];omega
  refine Qh (α:=Nat × Nat) (λp=>p.1<=g.length)
   (λp=>⟨[(2,.f fu []),(3,.p 0 1 0 0),(4,.p 1 1 0 0),(6,.p 2 1 0 0),(7,.own 3 (p.2+1) 0 (S p.1).length),(27,.a [rwL a,rwL b]),(28,.i .i64 k),(32,rwL g),(33,.i .i64 g.length),(34,.i .i64 p.1)],[.arr 1 1 [[rwL a]],.arr 1 1 [[rwL b]],.arr 1 1 [[.nil]],.arr (p.2+1) 1 ((S p.1).map iel)]⟩)
   (λp=>g.length-p.1) (0,gn) (by simp) ?_ ?_
  ·simp[go_sem,rwL,hS0]
   exact Kl _ _
  rintro⟨j,gm⟩ hj
  simp only at hj ⊢
  by_cases hjl:j=g.length
  ·subst hjl
   rw[hSn]
   simp (disch:=omega) [go_sem,rwL,Q3]
   exact⟨k+1,by omega,by omega,gm,⟨⟨rfl,rfl⟩,by omega⟩,⟨rfl,rfl⟩,Kl _ _⟩
  have hlt:j<g.length:=by omega
  have hq:g[j]?=some g[j]:=q9 hlt
  have hSs:S (j+1)=S j++[(g[j]).y]:=by rw[hS,hS,Qc hq,qw,qz];rfl
  have hSj:=hSl j
  generalize g[j]=w at *
  obtain⟨_,hq'⟩:=q8.1 hq
  have ht:List.take (S j).length ((S j).map iel)=(S j).map iel:=qe (by simp)
  generalize S j=L at *
  simp (disch:=omega) [go_sem,rwL,hlt,hq,hq',Rw.cs,ht,Q3]
  exact⟨⟨by omega,by omega⟩,j+1,by omega,by omega,gm+1,⟨⟨rfl,by rw[hSs];simp⟩,by omega⟩,⟨rfl,by rw[hSs];simp[iel]⟩,Kl _ _⟩
 ·obtain rfl:k=2:=by omega
  have hY2:Y 2=a.map Rw.y++b.map Rw.y:=by rw[hY];simp
  rw[hY2]
  generalize hB:a.map Rw.y++b.map Rw.y=B at *
  have hBl:B.length<=16384:=by rw[<- hB];simp;omega
  have hsl:(Zq B).length=B.length:=(Q2u B).length_eq
  have hso:=hs [.arr 1 1 [[rwL a]],.arr 1 1 [[rwL b]],.arr 1 1 [[.nil]],.arr (gn+1) 1 (B.map iel)] 3 (gn+1) B (by omega) rfl
  obtain⟨D,zs,hD,hDm,hDl,hzl,hzt,hka⟩:=hk (Zq B) (by omega) (Qhj B)
  have hDm2:∀x,x∈D↔x∈B:=λx=>by rw[hDm,(Q2u B).mem_iff]
  have hkc:=hka [.arr 1 1 [[rwL a]],.arr 1 1 [[rwL b]],.arr 1 1 [[.nil]],.arr (gn+1) 1 ((Zq B).map iel),.arr 1 1 [[.nil]]] 3 (gn+1) rfl
  rw[hsl]at hkc hDl hzl
  generalize Zq B=S at *
  simp (disch:=omega) [go_sem,Q3]
  refine Qr hso ?_
  simp (disch:=omega) [go_sem,Q3]
  refine Qr hkc ?_
  simp (disch:=omega) [go_sem,Q3]
  have hU:=Qld (W1 a b) (Qcq a b) hD λw hw=>by rw[hDm2,<- hB];exact Qgp ba bb hw
  have hUr:=Qki ha hb ba bb
  have hUv:=Q7n (W1 a b) (Qcq a b)
  generalize K0 a b=U at *
  obtain⟨T,hT⟩:∃T:Nat->List Rw,∀j,T j=Q35 U (D.take j):=⟨_,λ_=>rfl⟩
  have hT0:T 0=[]:=by rw[hT];rfl
  have hTn:T D.length=U:=by rw[hT,qi,hU]
  have hTl:∀j,(T j).length<=16384:=λj=>by
   have h1:=Qht U (D.take j)
   rw[qv]at h1
   rw[hT];omega
  refine Qz [.c 4 0 0 2] (α:=Nat × Nat) (λp=>p.1<=D.length)
   (λp=>⟨[(2,.f fu []),(3,.p 0 1 0 0),(4,.p 1 1 0 0),(6,.p 2 1 0 0),(12,.p 4 1 0 0),(48,.own 3 (gn+1) 0 D.length),(49,.i .i64 D.length),(50,.i .i64 p.1)],
    [.arr 1 1 [[rwL a]],.arr 1 1 [[rwL b]],.arr 1 1 [[.nil]],.arr (gn+1) 1 (zs.map iel),.arr 1 1 [[.own 5 (p.2+1) 0 (T p.1).length]],.arr (p.2+1) 2 ((T p.1).map Rw.cs)]⟩)
   (λp=>D.length-p.1) (0,0) (by simp) ?_ ?_
  ·simp[go_sem,rwL,hT0]
   exact⟨λ_ _=>rfl,Kl _ _⟩
  rintro⟨j,gm⟩ hj
  simp only at hj ⊢
  by_cases hjl:j=D.length
  ·subst hjl
   rw[hTn]
   have ht:List.take U.length (U.map Rw.cs)=U.map Rw.cs:=qe (by simp)
   simp (disch:=omega) [go_sem,ht,L10.r]
   rw[if_pos (Qd7 U)];rfl
  have hlt:j<D.length:=by omega
  have hq:D[j]?=some D[j]:=q9 hlt
  have hz:zs[j]?=some D[j]:=by
   rw[<- hq,<- hzt,jb,if_pos hlt]
  have hTs:T (j+1)=T j++(if Xn U D[j]=[] then [] else [⟨D[j],Xn U D[j]⟩]):=by rw[hT,hT,Qc hq,Qd9]
  have hTj:=hTl j
  have va:=Q7n ha ba D[j]
  have vb:=Q7n hb bb D[j]
  have r1:=hr a D[j] ha ba
  have r2:=hr b D[j] hb bb
  have r3:=hu _ _ (Xn U D[j]) va.1 vb.1 va.2 vb.2 (hUv D[j]).1 (hUr D[j])
  have hRl:=(hUv D[j]).1.len (hUv D[j]).2
  have hcl:=hc (Xn U D[j])
  generalize Xn U D[j]=R at *
  generalize Xn a D[j]=ra at *
  generalize Xn b D[j]=rb at *
  generalize D[j]=y at *
  obtain⟨hzl2,hz'⟩:=q8.1 hz
  have htk:List.take (T j).length ((T j).map Rw.cs)=(T j).map Rw.cs:=qe (by simp)
  simp only[rgV]at r1 r2
  simp (disch:=omega) [go_sem,hlt,hz,hz',iel,rwL,Q3]
  refine Qo r1 ?_
  simp (disch:=omega) [go_sem,Q3]
  refine Qo r2 ?_
  simp (disch:=omega) [go_sem,Q3]
  refine⟨hcb,Qo r3 ?_⟩
  by_cases hR0:R=[]
  ·rw[if_pos hR0,List.append_nil]at hTs
   simp (disch:=omega) [go_sem,Qj,hR0,Q3]
   exact⟨j+1,by omega,by omega,by omega,Kl _ _,gm,⟨rfl,by rw[hTs]⟩,⟨rfl,by rw[hTs]⟩,Q7f _ _⟩
  ·rw[if_neg hR0]at hTs
   have hRp:0<R.length:=List.length_pos_iff.2 hR0
   have hcl:=hcl hR0 hRl
   simp only[Qj]at hcl
   simp (disch:=omega) [go_sem,Qj,hRp,Q3]
   refine Qo hcl ?_
   simp (disch:=omega) [go_sem,Qj,hRp,htk,Q3]
   exact⟨⟨by omega,by omega⟩,j+1,by omega,by omega,by omega,Kl _ _,gm+1,⟨rfl,by rw[hTs];simp⟩,⟨rfl,by rw[hTs];simp[Rw.cs,Qj]⟩,Q7f _ _⟩
theorem Q1f {f fc fu:FuncId} (hf:Q9 P f (L0y.c fc fu) L0y.r L0y.n) (hc:Q4i P fc) (hcb:Qq P fu=true) (hu:Q2e P fu):UniC P f:=by
 intro a b ha hb ba bb
 have h:=hc fu hcb hu a b ha hb ba bb
 refine PureC.is (Q8 hm hf (qh rfl) ?_) rfl
 unfold L0y.c
 simp[go_sem,rgV]
 refine Q5 h ?_
 simp[go_sem,rgV,V.cells,V.okA,L0y.r]
end
end Go.Abs
