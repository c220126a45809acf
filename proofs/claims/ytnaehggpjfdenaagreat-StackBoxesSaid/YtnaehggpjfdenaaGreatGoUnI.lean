/- What the operations on regions do to values, the program's way: regions. -/
import Derived.Test.YtnaehggpjfdenaaGreatGoUnH
set_option linter.unusedVariables false
set_option linter.unusedSimpArgs false
set_option maxHeartbeats 16000000
set_option maxRecDepth 20000
namespace Go.Abs
def Qfd (P:Program) (f:FuncId):Prop:=∀xs:List Int,xs.length<4611686018427387904->xs.Pairwise (λx y=>x<=y)->∃ys zs:List Int,ys.Pairwise (λx y=>x<y)/\(∀x,x∈ys↔x∈xs)/\ys.length<=xs.length/\zs.length=xs.length/\zs.take ys.length=ys /\
 ∀(h:List O) (id gen:Nat),h[id]?=some (.arr gen 1 (xs.map λx=>[.i .i64 x]))->ACall P f [.own id gen 0 xs.length] h (λr h'=>r=.own id gen 0 ys.length/\h'=h.set id (.arr gen 1 (zs.map λx=>[.i .i64 x])))
def Q38 (U:List Rw) (D:List Int):List Rw:=(D.map λy=>Rw.mk y (Xs U y)).filter λw=>decide (w.rs≠[])
theorem Qdd (U:List Rw) (D:List Int) (y:Int):Q38 U (D++[y])=Q38 U D++(if Xs U y=[] then [] else [⟨y,Xs U y⟩]):=by
 unfold Q38
 rw[qy,List.filter_append]
 congr 1
 by_cases h:Xs U y=[]
 ·simp[h]
 ·simp[h]
theorem Qhx (U:List Rw) (D:List Int):(Q38 U D).length<=D.length:=by
 unfold Q38
 refine Nat.le_trans (ja _ _) ?_
 simp
theorem Qlh {U:List Rw} (hU:RgV U) (hb:RgB U) {D:List Int} (hD:D.Pairwise λx y=>x<y) (hm:∀w∈U,w.y∈D):Q38 U D=U:=by
 refine RgV.ext ⟨λw hw=>?_,λw hw=>?_,?_⟩ hU λy x=>?_
 ·obtain⟨h1,_⟩:=qw.1 hw
  obtain⟨y,_,rfl⟩:=qq.1 h1
  exact(Q7s hU hb y).1
 ·simpa using(qw.1 hw).2
 ·refine List.Pairwise.filter _ ?_
  rw[jf]
  exact hD
 ·constructor
  ·rintro⟨w,hw,rfl,hx⟩
   obtain⟨h1,_⟩:=qw.1 hw
   obtain⟨y,_,rfl⟩:=qq.1 h1
   exact(Iy hU).1 hx
  ·intro h
   have h2:=(Iy hU).2 h
   obtain⟨w,hw,rfl,_⟩:=h
   refine⟨⟨w.y,Xs U w.y⟩,qw.2 ⟨qq.2 ⟨w.y,hm w hw,rfl⟩,?_⟩,rfl,h2⟩
   simp only[decide_eq_true_eq]
   intro h0
   rw[h0]at h2
   exact Qk _ h2
theorem Qgt {a b:List Rw} (ba:RgB a) (bb:RgB b) {w:Rw} (hw:w∈K6 a b):w.y∈a.map Rw.y++b.map Rw.y:=by
 obtain⟨x,hx⟩:=((W5 a b).rs w hw).some ((W5 a b).ne w hw)
 rcases (Q2d ba bb).1 ⟨w,hw,rfl,hx⟩ with⟨v,hv,he,_⟩ | ⟨v,hv,he,_⟩
 ·exact qi.2 (.inl (qq.2 ⟨v,hv,he⟩))
 ·exact qi.2 (.inr (qq.2 ⟨v,hv,he⟩))
theorem Qkm {a b:List Rw} (ha:RgV a) (hb:RgV b) (ba:RgB a) (bb:RgB b) (y x:Int):Qf (Xs (K6 a b) y) x↔Qf (Xs a y) x∨Qf (Xs b y) x:=by
 rw[Iy (W5 a b),Iy ha,Iy hb,Q2d ba bb]
def Q4l (P:Program) (f:FuncId):Prop:=∀fu,Qq P fu=true->Q2h P fu->∀a b:List Rw,RgV a->RgV b->RgB a->RgB b->CallIs P f [rgV a,rgV b,.f fu []] (rgV (K6 a b))
section
variable {P:Program} (hm:P.follows .mixedOrders=true)
include hm
theorem Ib {f fv fs fk fr fc:FuncId} (hf:Q9 P f (L0y.c fv fs fk fr fc) L0y.r L0y.n) (hv:Q9f P fv) (hs:Q9a P fs) (hk:Qfd P fk) (hr:Qpj P fr) (hc:Q9q P fc):Q4l P f:=by
 intro fu hcb hu a b ha hb ba bb
 have hal:=ha.len ba
 have hbl:=hb.len bb
 have v1:=hv a ha ba
 have v2:=hv b hb bb
 refine PureC.is (Q8 hm hf (qj rfl) ?_) rfl
 unfold L0y.c
 simp[go_sem,rgV]
 refine Q5 v1 ?_
 simp[go_sem,rgV]
 refine Q5 v2 ?_
 simp[go_sem,rgV]
 obtain⟨Y,hY⟩:∃Y:Nat->List Int,∀k,Y k=if k=0 then [] else if k=1 then a.map Rw.y else a.map Rw.y++b.map Rw.y:=⟨_,λ_=>rfl⟩
 have hYl:∀k,(Y k).length<=16384:=λk=>by rw[hY];split<;>(try split)<;>simp<;>omega
 refine Z0 [.t 7 1] (α:=Nat × Nat) (λp=>p.1<=2)
  (λp=>⟨[(2,.f fu []),(3,.p 0 1 0 0),(4,.p 1 1 0 0),(6,.p 2 1 0 0),(7,.own 3 (p.2+1) 0 (Y p.1).length),(27,.a [rwL a,rwL b]),(28,.i .i64 p.1)],[.arr 1 1 [[rwL a]],.arr 1 1 [[rwL b]],.arr 1 1 [[.nil]],.arr (p.2+1) 1 ((Y p.1).map iel)]⟩)
  (λp=>2-p.1) (0,0) (by simp) ?_ ?_
 ·simp[go_sem,rwL,hY]
 rintro⟨k,gn⟩ hk2
 simp only at hk2 ⊢
 by_cases hkl:k<2
 ·have key:∃g:List Rw,([rwL a,rwL b]:List V)[k]?=some (rwL g)/\g.length<=8192/\Y (k+1)=Y k++g.map Rw.y:=by
   rcases (show k=0∨k=1 by omega) with rfl | rfl
   ·exact⟨a,rfl,hal,by rw[hY,hY];simp⟩
   ·exact⟨b,rfl,hbl,by rw[hY,hY];simp⟩
  obtain⟨g,hg,hgl,hYs⟩:=key
  have hYk:=hYl k
  have hkz:(k:Int)<2:=by omega
  have hdr:List.take 1 (List.drop k [V.l 2 (a.map Rw.cs),V.l 2 (b.map Rw.cs)])=[.l 2 (g.map Rw.cs)]:=by
   show List.take 1 (List.drop k [rwL a,rwL b])=[rwL g]
   rcases (show k=0∨k=1 by omega) with rfl | rfl
   ·simp at hg ⊢;exact hg
   ·simp at hg ⊢;exact hg
  simp (disch:=omega) [go_sem,rwL,hkl,hkz,hg,hdr,show k<=2 by omega,show 1<=2-k by omega,Q3]
  obtain⟨S,hS⟩:∃S:Nat->List Int,∀j,S j=Y k++(g.take j).map Rw.y:=⟨_,λ_=>rfl⟩
  have hS0:S 0=Y k:=by rw[hS];simp
  have hSn:S g.length=Y (k+1):=by rw[hS,qk,hYs]
  have hSl:∀j,(S j).length<=30000:=λj=>by rw[hS,j5,List.length_map,qx];omega
  refine Qi (α:=Nat × Nat) (λp=>p.1<=g.length)
   (λp=>⟨[(2,.f fu []),(3,.p 0 1 0 0),(4,.p 1 1 0 0),(6,.p 2 1 0 0),(7,.own 3 (p.2+1) 0 (S p.1).length),(27,.a [rwL a,rwL b]),(28,.i .i64 k),(32,rwL g),(33,.i .i64 g.length),(34,.i .i64 p.1)],[.arr 1 1 [[rwL a]],.arr 1 1 [[rwL b]],.arr 1 1 [[.nil]],.arr (p.2+1) 1 ((S p.1).map iel)]⟩)
   (λp=>g.length-p.1) (0,gn) (by simp) ?_ ?_
  ·simp[go_sem,rwL,hS0]
   exact Wg _ _
  rintro⟨j,gm⟩ hj
  simp only at hj ⊢
  by_cases hjl:j=g.length
  ·subst hjl
   rw[hSn]
   simp (disch:=omega) [go_sem,rwL,Q3]
   exact⟨k+1,by omega,by omega,gm,⟨⟨rfl,rfl⟩,by omega⟩,⟨rfl,rfl⟩,Wg _ _⟩
  have hlt:j<g.length:=by omega
  have hq:g[j]?=some g[j]:=qb hlt
  have hSs:S (j+1)=S j++[(g[j]).y]:=by rw[hS,hS,Qc hq,qy,j4];rfl
  have hSj:=hSl j
  generalize g[j]=w at *
  obtain⟨_,hq'⟩:=qa.1 hq
  have ht:List.take (S j).length ((S j).map iel)=(S j).map iel:=qg (by simp)
  generalize S j=L at *
  simp (disch:=omega) [go_sem,rwL,hlt,hq,hq',Rw.cs,ht,Q3]
  exact⟨⟨by omega,by omega⟩,j+1,by omega,by omega,gm+1,⟨⟨rfl,by rw[hSs];simp⟩,by omega⟩,⟨rfl,by rw[hSs];simp[iel]⟩,Wg _ _⟩
 ·obtain rfl:k=2:=by omega
  have hY2:Y 2=a.map Rw.y++b.map Rw.y:=by rw[hY];simp
  rw[hY2]
  generalize hB:a.map Rw.y++b.map Rw.y=B at *
  have hBl:B.length<=16384:=by rw[<- hB];simp;omega
  have hsl:(Zq B).length=B.length:=(Q2x B).length_eq
  have hso:=hs [.arr 1 1 [[rwL a]],.arr 1 1 [[rwL b]],.arr 1 1 [[.nil]],.arr (gn+1) 1 (B.map iel)] 3 (gn+1) B (by omega) rfl
  obtain⟨D,zs,hD,hDm,hDl,hzl,hzt,hka⟩:=hk (Zq B) (by omega) (Qhn B)
  have hDm2:∀x,x∈D↔x∈B:=λx=>by rw[hDm,(Q2x B).mem_iff]
  have hkc:=hka [.arr 1 1 [[rwL a]],.arr 1 1 [[rwL b]],.arr 1 1 [[.nil]],.arr (gn+1) 1 ((Zq B).map iel),.arr 1 1 [[.nil]]] 3 (gn+1) rfl
  rw[hsl]at hkc hDl hzl
  generalize Zq B=S at *
  simp (disch:=omega) [go_sem,Q3]
  refine Qr hso ?_
  simp (disch:=omega) [go_sem,Q3]
  refine Qr hkc ?_
  simp (disch:=omega) [go_sem,Q3]
  have hU:=Qlh (W5 a b) (Qcu a b) hD λw hw=>by rw[hDm2,<- hB];exact Qgt ba bb hw
  have hUr:=Qkm ha hb ba bb
  have hUv:=Q7s (W5 a b) (Qcu a b)
  generalize K6 a b=U at *
  obtain⟨T,hT⟩:∃T:Nat->List Rw,∀j,T j=Q38 U (D.take j):=⟨_,λ_=>rfl⟩
  have hT0:T 0=[]:=by rw[hT];rfl
  have hTn:T D.length=U:=by rw[hT,qk,hU]
  have hTl:∀j,(T j).length<=16384:=λj=>by
   have h1:=Qhx U (D.take j)
   rw[qx]at h1
   rw[hT];omega
  refine Z0 [.c 4 0 0 2] (α:=Nat × Nat) (λp=>p.1<=D.length)
   (λp=>⟨[(2,.f fu []),(3,.p 0 1 0 0),(4,.p 1 1 0 0),(6,.p 2 1 0 0),(12,.p 4 1 0 0),(48,.own 3 (gn+1) 0 D.length),(49,.i .i64 D.length),(50,.i .i64 p.1)],
    [.arr 1 1 [[rwL a]],.arr 1 1 [[rwL b]],.arr 1 1 [[.nil]],.arr (gn+1) 1 (zs.map iel),.arr 1 1 [[.own 5 (p.2+1) 0 (T p.1).length]],.arr (p.2+1) 2 ((T p.1).map Rw.cs)]⟩)
   (λp=>D.length-p.1) (0,0) (by simp) ?_ ?_
  ·simp[go_sem,rwL,hT0]
   exact⟨λ_ _=>rfl,Wg _ _⟩
  rintro⟨j,gm⟩ hj
  simp only at hj ⊢
  by_cases hjl:j=D.length
  ·subst hjl
   rw[hTn]
   have ht:List.take U.length (U.map Rw.cs)=U.map Rw.cs:=qg (by simp)
   simp (disch:=omega) [go_sem,ht,L0y.r]
   rw[if_pos (Qdb U)];rfl
  have hlt:j<D.length:=by omega
  have hq:D[j]?=some D[j]:=qb hlt
  have hz:zs[j]?=some D[j]:=by
   rw[<- hq,<- hzt,jd,if_pos hlt]
  have hTs:T (j+1)=T j++(if Xs U D[j]=[] then [] else [⟨D[j],Xs U D[j]⟩]):=by rw[hT,hT,Qc hq,Qdd]
  have hTj:=hTl j
  have va:=Q7s ha ba D[j]
  have vb:=Q7s hb bb D[j]
  have r1:=hr a D[j] ha ba
  have r2:=hr b D[j] hb bb
  have r3:=hu _ _ (Xs U D[j]) va.1 vb.1 va.2 vb.2 (hUv D[j]).1 (hUr D[j])
  have hRl:=(hUv D[j]).1.len (hUv D[j]).2
  have hcl:=hc (Xs U D[j])
  generalize Xs U D[j]=R at *
  generalize Xs a D[j]=ra at *
  generalize Xs b D[j]=rb at *
  generalize D[j]=y at *
  obtain⟨hzl2,hz'⟩:=qa.1 hz
  have htk:List.take (T j).length ((T j).map Rw.cs)=(T j).map Rw.cs:=qg (by simp)
  simp only[rgV]at r1 r2
  simp (disch:=omega) [go_sem,hlt,hz,hz',iel,rwL,Q3]
  refine Qn r1 ?_
  simp (disch:=omega) [go_sem,Q3]
  refine Qn r2 ?_
  simp (disch:=omega) [go_sem,Q3]
  refine⟨hcb,Qn r3 ?_⟩
  by_cases hR0:R=[]
  ·rw[if_pos hR0,List.append_nil]at hTs
   simp (disch:=omega) [go_sem,Qj,hR0,Q3]
   exact⟨j+1,by omega,by omega,by omega,Wg _ _,gm,⟨rfl,by rw[hTs]⟩,⟨rfl,by rw[hTs]⟩,Q7k _ _⟩
  ·rw[if_neg hR0]at hTs
   have hRp:0<R.length:=List.length_pos_iff.2 hR0
   have hcl:=hcl hR0 hRl
   simp only[Qj]at hcl
   simp (disch:=omega) [go_sem,Qj,hRp,Q3]
   refine Qn hcl ?_
   simp (disch:=omega) [go_sem,Qj,hRp,htk,Q3]
   exact⟨⟨by omega,by omega⟩,j+1,by omega,by omega,by omega,Wg _ _,gm+1,⟨rfl,by rw[hTs];simp⟩,⟨rfl,by rw[hTs];simp[Rw.cs,Qj]⟩,Q7k _ _⟩
theorem Q1g {f fc fu:FuncId} (hf:Q9 P f (L0w.c fc fu) L0w.r L0w.n) (hc:Q4l P fc) (hcb:Qq P fu=true) (hu:Q2h P fu):UniC P f:=by
 intro a b ha hb ba bb
 have h:=hc fu hcb hu a b ha hb ba bb
 refine PureC.is (Q8 hm hf (qj rfl) ?_) rfl
 unfold L0w.c
 simp[go_sem,rgV]
 refine Q5 h ?_
 simp[go_sem,rgV,V.cells,V.okA,L0w.r]
end
end Go.Abs
