/- What the operations on regions do to values, the program's way: regions. -/
import Derived.Test.YtnaehggpjfdenaaGreatGoUnH
set_option linter.unusedVariables false
set_option linter.unusedSimpArgs false
set_option maxHeartbeats 16000000
set_option maxRecDepth 20000
namespace Go.Abs
def Qff (P:Program) (f:FuncId):Prop:=∀xs:List Int,xs.length<4611686018427387904->xs.Pairwise (λx y=>x<=y)->∃ys zs:List Int,ys.Pairwise (λx y=>x<y)/\(∀x,x∈ys↔x∈xs)/\ys.length<=xs.length/\zs.length=xs.length/\zs.take ys.length=ys /\
 ∀(h:List O) (id gen:Nat),h[id]?=some (.arr gen 1 (xs.map λx=>[.i .i64 x]))->ACall P f [.own id gen 0 xs.length] h (λr h'=>r=.own id gen 0 ys.length/\h'=h.set id (.arr gen 1 (zs.map λx=>[.i .i64 x])))
def Q35 (U:List Rw) (D:List Int):List Rw:=(D.map λy=>Rw.mk y (Xp U y)).filter λw=>decide (w.rs≠[])
theorem Qdd (U:List Rw) (D:List Int) (y:Int):Q35 U (D++[y])=Q35 U D++(if Xp U y=[] then [] else [⟨y,Xp U y⟩]):=by
 unfold Q35
 rw[qw,List.filter_append]
 congr 1
 by_cases h:Xp U y=[]
 ·simp[h]
 ·simp[h]
theorem Qi2 (U:List Rw) (D:List Int):(Q35 U D).length<=D.length:=by
 unfold Q35
 refine Nat.le_trans (j8 _ _) ?_
 simp
theorem Qln {U:List Rw} (hU:RgV U) (hb:RgB U) {D:List Int} (hD:D.Pairwise λx y=>x<y) (hm:∀w∈U,w.y∈D):Q35 U D=U:=by
 refine RgV.ext ⟨λw hw=>?_,λw hw=>?_,?_⟩ hU λy x=>?_
 ·obtain⟨h1,_⟩:=qu.1 hw
  obtain⟨y,_,rfl⟩:=qo.1 h1
  exact(Q7o hU hb y).1
 ·simpa using(qu.1 hw).2
 ·refine List.Pairwise.filter _ ?_
  rw[jd]
  exact hD
 ·constructor
  ·rintro⟨w,hw,rfl,hx⟩
   obtain⟨h1,_⟩:=qu.1 hw
   obtain⟨y,_,rfl⟩:=qo.1 h1
   exact(Iw hU).1 hx
  ·intro h
   have h2:=(Iw hU).2 h
   obtain⟨w,hw,rfl,_⟩:=h
   refine⟨⟨w.y,Xp U w.y⟩,qu.2 ⟨qo.2 ⟨w.y,hm w hw,rfl⟩,?_⟩,rfl,h2⟩
   simp only[decide_eq_true_eq]
   intro h0
   rw[h0]at h2
   exact Qk _ h2
theorem Qgw {a b:List Rw} (ba:RgB a) (bb:RgB b) {w:Rw} (hw:w∈K2 a b):w.y∈a.map Rw.y++b.map Rw.y:=by
 obtain⟨x,hx⟩:=((W1 a b).rs w hw).some ((W1 a b).ne w hw)
 rcases (Q2a ba bb).1 ⟨w,hw,rfl,hx⟩ with⟨v,hv,he,_⟩ | ⟨v,hv,he,_⟩
 ·exact qg.2 (.inl (qo.2 ⟨v,hv,he⟩))
 ·exact qg.2 (.inr (qo.2 ⟨v,hv,he⟩))
theorem Qkr {a b:List Rw} (ha:RgV a) (hb:RgV b) (ba:RgB a) (bb:RgB b) (y x:Int):Qg (Xp (K2 a b) y) x↔Qg (Xp a y) x∨Qg (Xp b y) x:=by
 rw[Iw (W1 a b),Iw ha,Iw hb,Q2a ba bb]
def Q4i (P:Program) (f:FuncId):Prop:=∀fu,Qq P fu=true->Q2e P fu->∀a b:List Rw,RgV a->RgV b->RgB a->RgB b->CallIs P f [rgV a,rgV b,.f fu []] (rgV (K2 a b))
section
variable {P:Program} (hm:P.follows .mixedOrders=true)
include hm
theorem I9 {f fv fs fk fr fc:FuncId} (hf:Q9 P f (L12.c fv fs fk fr fc) L12.r L12.n) (hv:Uc P fv) (hs:Q9a P fs) (hk:Qff P fk) (hr:Qpr P fr) (hc:Q9q P fc):Q4i P f:=by
 intro fu hcb hu a b ha hb ba bb
 have hal:=ha.len ba
 have hbl:=hb.len bb
 have v1:=hv a ha ba
 have v2:=hv b hb bb
 refine PureC.is (Q8 hm hf (qh rfl) ?_) rfl
 unfold L12.c
 simp[go_sem,rgV]
 refine Q5 v1 ?_
 simp[go_sem,rgV]
 refine Q5 v2 ?_
 simp[go_sem,rgV]
 obtain⟨Y,hY⟩:∃Y:Nat->List Int,∀k,Y k=if k=0 then [] else if k=1 then a.map Rw.y else a.map Rw.y++b.map Rw.y:=⟨_,λ_=>rfl⟩
 have hYl:∀k,(Y k).length<=16384:=λk=>by rw[hY];split<;>(try split)<;>simp<;>omega
 refine Z0 [.t 7 1] (α:=Nat × Nat) (λp=>p.1<=2)
  (λp=>⟨[(2,.f fu []),(3,.p 0 1 0 0),(4,.p 1 1 0 0),(6,.p 2 1 0 0),(7,.own 3 (p.2+1) 0 (Y p.1).length),(27,.a [rwL a,rwL b]),(28,.i .i64 p.1)],[.arr 1 1 [[rwL a]],.arr 1 1 [[rwL b]],.arr 1 1 [[.nil]],.arr (p.2+1) 1 ((Y p.1).map iel)]⟩)
  (λp=>2-p.1) (0,0) (by simp) ?_ ?_
 ·simp[go_sem,rwL,hY]
 rintro⟨k,gn⟩ hk2
 simp only at hk2 ⊢
 by_cases hkl:k<2
 ·have key:∃g:List Rw,([rwL a,rwL b]:List V)[k]?=some (rwL g)/\g.length<=8192/\Y (k+1)=Y k++g.map Rw.y:=by
   rcases (show k=0∨k=1 by omega) with rfl | rfl
   ·exact⟨a,rfl,hal,by rw[hY,hY];simp⟩
   ·exact⟨b,rfl,hbl,by rw[hY,hY];simp⟩
  obtain⟨g,hg,hgl,hYs⟩:=key
  have hYk:=hYl k
  have hkz:(k:Int)<2:=by omega
  have hdr:List.take 1 (List.drop k [V.l 2 (a.map Rw.cs),V.l 2 (b.map Rw.cs)])=[.l 2 (g.map Rw.cs)]:=by
   show List.take 1 (List.drop k [rwL a,rwL b])=[rwL g]
   rcases (show k=0∨k=1 by omega) with rfl | rfl
   ·simp at hg ⊢;exact hg
   ·simp at hg ⊢;exact hg
  simp (disch:=omega) [go_sem,rwL,hkl,hkz,hg,hdr,show k<=2 by omega,show 1<=2-k by omega,Q2]
  obtain⟨S,hS⟩:∃S:Nat->List Int,∀j,S j=Y k++(g.take j).map Rw.y:=⟨_,λ_=>rfl⟩
  have hS0:S 0=Y k:=by rw[hS];simp
  have hSn:S g.length=Y (k+1):=by rw[hS,qi,hYs]
  have hSl:∀j,(S j).length<=30000:=λj=>by rw[hS,j3,List.length_map,qv];omega
  refine Qf (α:=Nat × Nat) (λp=>p.1<=g.length)
   (λp=>⟨[(2,.f fu []),(3,.p 0 1 0 0),(4,.p 1 1 0 0),(6,.p 2 1 0 0),(7,.own 3 (p.2+1) 0 (S p.1).length),(27,.a [rwL a,rwL b]),(28,.i .i64 k),(32,rwL g),(33,.i .i64 g.length),(34,.i .i64 p.1)],[.arr 1 1 [[rwL a]],.arr 1 1 [[rwL b]],.arr 1 1 [[.nil]],.arr (p.2+1) 1 ((S p.1).map iel)]⟩)
   (λp=>g.length-p.1) (0,gn) (by simp) ?_ ?_
  ·simp[go_sem,rwL,hS0]
   exact Wc _ _
  rintro⟨j,gm⟩ hj
  simp only at hj ⊢
  by_cases hjl:j=g.length
  ·subst hjl
   rw[hSn]
   simp (disch:=omega) [go_sem,rwL,Q2]
   exact⟨k+1,by omega,by omega,gm,⟨⟨rfl,rfl⟩,by omega⟩,⟨rfl,rfl⟩,Wc _ _⟩
  have hlt:j<g.length:=by omega
  have hq:g[j]?=some g[j]:=q9 hlt
  have hSs:S (j+1)=S j++[(g[j]).y]:=by rw[hS,hS,Qc hq,qw,qz];rfl
  have hSj:=hSl j
  generalize g[j]=w at *
  obtain⟨_,hq'⟩:=q8.1 hq
  have ht:List.take (S j).length ((S j).map iel)=(S j).map iel:=qe (by simp)
  generalize S j=L at *
  simp (disch:=omega) [go_sem,rwL,hlt,hq,hq',Rw.cs,ht,Q2]
  exact⟨⟨by omega,by omega⟩,j+1,by omega,by omega,gm+1,⟨⟨rfl,by rw[hSs];simp⟩,by omega⟩,⟨rfl,by rw[hSs];simp[iel]⟩,Wc _ _⟩
 ·obtain rfl:k=2:=by omega
  have hY2:Y 2=a.map Rw.y++b.map Rw.y:=by rw[hY];simp
  rw[hY2]
  generalize hB:a.map Rw.y++b.map Rw.y=B at *
  have hBl:B.length<=16384:=by rw[<- hB];simp;omega
  have hsl:(Zq B).length=B.length:=(Q2u B).length_eq
  have hso:=hs [.arr 1 1 [[rwL a]],.arr 1 1 [[rwL b]],.arr 1 1 [[.nil]],.arr (gn+1) 1 (B.map iel)] 3 (gn+1) B (by omega) rfl
  obtain⟨D,zs,hD,hDm,hDl,hzl,hzt,hka⟩:=hk (Zq B) (by omega) (Qhq B)
  have hDm2:∀x,x∈D↔x∈B:=λx=>by rw[hDm,(Q2u B).mem_iff]
  have hkc:=hka [.arr 1 1 [[rwL a]],.arr 1 1 [[rwL b]],.arr 1 1 [[.nil]],.arr (gn+1) 1 ((Zq B).map iel),.arr 1 1 [[.nil]]] 3 (gn+1) rfl
  rw[hsl]at hkc hDl hzl
  generalize Zq B=S at *
  simp (disch:=omega) [go_sem,Q2]
  refine Qr hso ?_
  simp (disch:=omega) [go_sem,Q2]
  refine Qr hkc ?_
  simp (disch:=omega) [go_sem,Q2]
  have hU:=Qln (W1 a b) (Qcu a b) hD λw hw=>by rw[hDm2,<- hB];exact Qgw ba bb hw
  have hUr:=Qkr ha hb ba bb
  have hUv:=Q7o (W1 a b) (Qcu a b)
  generalize K2 a b=U at *
  obtain⟨T,hT⟩:∃T:Nat->List Rw,∀j,T j=Q35 U (D.take j):=⟨_,λ_=>rfl⟩
  have hT0:T 0=[]:=by rw[hT];rfl
  have hTn:T D.length=U:=by rw[hT,qi,hU]
  have hTl:∀j,(T j).length<=16384:=λj=>by
   have h1:=Qi2 U (D.take j)
   rw[qv]at h1
   rw[hT];omega
  refine Z0 [.c 4 0 0 2] (α:=Nat × Nat) (λp=>p.1<=D.length)
   (λp=>⟨[(2,.f fu []),(3,.p 0 1 0 0),(4,.p 1 1 0 0),(6,.p 2 1 0 0),(12,.p 4 1 0 0),(48,.own 3 (gn+1) 0 D.length),(49,.i .i64 D.length),(50,.i .i64 p.1)],
    [.arr 1 1 [[rwL a]],.arr 1 1 [[rwL b]],.arr 1 1 [[.nil]],.arr (gn+1) 1 (zs.map iel),.arr 1 1 [[.own 5 (p.2+1) 0 (T p.1).length]],.arr (p.2+1) 2 ((T p.1).map Rw.cs)]⟩)
   (λp=>D.length-p.1) (0,0) (by simp) ?_ ?_
  ·simp[go_sem,rwL,hT0]
   exact⟨λ_ _=>rfl,Wc _ _⟩
  rintro⟨j,gm⟩ hj
  simp only at hj ⊢
  by_cases hjl:j=D.length
  ·subst hjl
   rw[hTn]
   have ht:List.take U.length (U.map Rw.cs)=U.map Rw.cs:=qe (by simp)
   simp (disch:=omega) [go_sem,ht,L12.r]
   rw[if_pos (Qdb U)];rfl
  have hlt:j<D.length:=by omega
  have hq:D[j]?=some D[j]:=q9 hlt
  have hz:zs[j]?=some D[j]:=by
   rw[<- hq,<- hzt,jb,if_pos hlt]
  have hTs:T (j+1)=T j++(if Xp U D[j]=[] then [] else [⟨D[j],Xp U D[j]⟩]):=by rw[hT,hT,Qc hq,Qdd]
  have hTj:=hTl j
  have va:=Q7o ha ba D[j]
  have vb:=Q7o hb bb D[j]
  have r1:=hr a D[j] ha ba
  have r2:=hr b D[j] hb bb
  have r3:=hu _ _ (Xp U D[j]) va.1 vb.1 va.2 vb.2 (hUv D[j]).1 (hUr D[j])
  have hRl:=(hUv D[j]).1.len (hUv D[j]).2
  have hcl:=hc (Xp U D[j])
  generalize Xp U D[j]=R at *
  generalize Xp a D[j]=ra at *
  generalize Xp b D[j]=rb at *
  generalize D[j]=y at *
  obtain⟨hzl2,hz'⟩:=q8.1 hz
  have htk:List.take (T j).length ((T j).map Rw.cs)=(T j).map Rw.cs:=qe (by simp)
  simp only[rgV]at r1 r2
  simp (disch:=omega) [go_sem,hlt,hz,hz',iel,rwL,Q2]
  refine Qo r1 ?_
  simp (disch:=omega) [go_sem,Q2]
  refine Qo r2 ?_
  simp (disch:=omega) [go_sem,Q2]
  refine⟨hcb,Qo r3 ?_⟩
  by_cases hR0:R=[]
  ·rw[if_pos hR0,List.append_nil]at hTs
   simp (disch:=omega) [go_sem,Qi,hR0,Q2]
   exact⟨j+1,by omega,by omega,by omega,Wc _ _,gm,⟨rfl,by rw[hTs]⟩,⟨rfl,by rw[hTs]⟩,Q7g _ _⟩
  ·rw[if_neg hR0]at hTs
   have hRp:0<R.length:=jf.2 hR0
   have hcl:=hcl hR0 hRl
   simp only[Qi]at hcl
   simp (disch:=omega) [go_sem,Qi,hRp,Q2]
   refine Qo hcl ?_
   simp (disch:=omega) [go_sem,Qi,hRp,htk,Q2]
   exact⟨⟨by omega,by omega⟩,j+1,by omega,by omega,by omega,Wc _ _,gm+1,⟨rfl,by rw[hTs];simp⟩,⟨rfl,by rw[hTs];simp[Rw.cs,Qi]⟩,Q7g _ _⟩
theorem Q1e {f fc fu:FuncId} (hf:Q9 P f (L10.c fc fu) L10.r L10.n) (hc:Q4i P fc) (hcb:Qq P fu=true) (hu:Q2e P fu):UniC P f:=by
 intro a b ha hb ba bb
 have h:=hc fu hcb hu a b ha hb ba bb
 refine PureC.is (Q8 hm hf (qh rfl) ?_) rfl
 unfold L10.c
 simp[go_sem,rgV]
 refine Q5 h ?_
 simp[go_sem,rgV,V.cells,V.okA,L10.r]
end
end Go.Abs
