/- What Repair does to values: the jobs one after the other. -/
import Derived.Test.YtjggbpiapinceaaGreatGoCtE
set_option linter.unusedVariables false
set_option linter.unusedSimpArgs false
set_option maxHeartbeats 8000000
set_option maxRecDepth 20000
namespace Go.Abs
noncomputable def Ut:Nat->Mesh->Rep->Mesh × Rep × Int
 | 0=>λm r=>((Qe m).1,{ r with me:=r.me+(Qe m).2.1 },(Qe m).2.2)
 | 1=>λm r=>((Qh m).1,{ r with de:=(Qh m).2.1,du:=(Qh m).2.2.1 },(Qh m).2.2.2)
 | 2=>λm r=>((Qe m).1,{ r with me:=r.me+(Qe m).2.1 },(Qe m).2.2)
 | 3=>λm r=>((Zz m).1,{ r with fl:=(Zz m).2.1 },(Zz m).2.2)
 | 4=>λm r=>((Zc m).1,{ r with ho:=(Zc m).2.1 },(Zc m).2.2)
 | 5=>λm r=>((Yu m).1,{ r with iv:=(Yu m).2.1 },(Yu m).2.2)
 | _=>λm r=>(m,{ r with sh:=(m.shells.length:Int) },W9 m)
noncomputable def Qm (m:Mesh):Nat->Mesh × Rep
 | 0=>(m,Rep.zero)
 | k+1=>((Ut k (Qm m k).1 (Qm m k).2).1,(Ut k (Qm m k).1 (Qm m k).2).2.1)
noncomputable def J0 (m:Mesh) (k:Nat):Int:=(Ut k (Qm m k).1 (Qm m k).2).2.2
theorem jobG_me (k:Nat) (m:Mesh) (r:Rep):(Ut k m r).2.1.me=r.me∨(Ut k m r).2.1.me=r.me+(Qe m).2.1:=by
 match k with
 | 0=>exact .inr rfl
 | 1=>exact .inl rfl
 | 2=>exact .inr rfl
 | 3=>exact .inl rfl
 | 4=>exact .inl rfl
 | 5=>exact .inl rfl
 | k+6=>exact .inl rfl
theorem Z9 (m:Mesh) (k:Nat):Qm m (k+1)=((Ut k (Qm m k).1 (Qm m k).2).1,(Ut k (Qm m k).1 (Qm m k).2).2.1):=rfl
theorem Qja (m:Mesh):∀k:Nat,0<=(Qm m k).2.me/\(Qm m k).2.me<=4096*k
 | 0=>by simp[Qm,Rep.zero]
 | k+1=>by
   have ih:=Qja m k
   have hw:=Q88 (Qm m k).1
   have hg:=jobG_me k (Qm m k).1 (Qm m k).2
   rw[Z9]
   simp only[]
   omega
theorem Ws (m:Mesh) (k:Nat):J0 m k=(Ut k (Qm m k).1 (Qm m k).2).2.2:=rfl
theorem jM0 (m:Mesh):(Qm m 0).1=m:=rfl
theorem jM1 (m:Mesh):(Qm m 1).1=(Qe m).1:=by
 have h:(Qm m (0+1)).1=(Qe (Qm m 0).1).1:=by
  rw[Z9];generalize Qm m 0=s;rfl
 rw[show 1=0+1 from rfl,h,jM0]
theorem jM2 (m:Mesh):(Qm m 2).1=(Qh (Qe m).1).1:=by
 have h:(Qm m (1+1)).1=(Qh (Qm m 1).1).1:=by
  rw[Z9];generalize Qm m 1=s;rfl
 rw[show 2=1+1 from rfl,h,jM1]
theorem jM3 (m:Mesh):(Qm m 3).1=(Qe (Qh (Qe m).1).1).1:=by
 have h:(Qm m (2+1)).1=(Qe (Qm m 2).1).1:=by
  rw[Z9];generalize Qm m 2=s;rfl
 rw[show 3=2+1 from rfl,h,jM2]
theorem jM4 (m:Mesh):(Qm m 4).1=(Zz (Qe (Qh (Qe m).1).1).1).1:=by
 have h:(Qm m (3+1)).1=(Zz (Qm m 3).1).1:=by
  rw[Z9];generalize Qm m 3=s;rfl
 rw[show 4=3+1 from rfl,h,jM3]
theorem jM5 (m:Mesh):(Qm m 5).1=(Zc (Zz (Qe (Qh (Qe m).1).1).1).1).1:=by
 have h:(Qm m (4+1)).1=(Zc (Qm m 4).1).1:=by
  rw[Z9];generalize Qm m 4=s;rfl
 rw[show 5=4+1 from rfl,h,jM4]
theorem jM6 (m:Mesh):(Qm m 6).1=(Yu (Zc (Zz (Qe (Qh (Qe m).1).1).1).1).1).1:=by
 have h:(Qm m (5+1)).1=(Yu (Qm m 5).1).1:=by
  rw[Z9];generalize Qm m 5=s;rfl
 rw[show 6=5+1 from rfl,h,jM5]
theorem jM7 (m:Mesh):(Qm m 7).1=(Yu (Zc (Zz (Qe (Qh (Qe m).1).1).1).1).1).1:=by
 have h:(Qm m (6+1)).1=(Qm m 6).1:=by
  rw[Z9];generalize Qm m 6=s;rfl
 rw[show 7=6+1 from rfl,h,jM6]
theorem jE0 (m:Mesh):J0 m 0=(Qe m).2.2:=by
 have h:J0 m 0=(Qe (Qm m 0).1).2.2:=by
  rw[Ws];generalize Qm m 0=s;rfl
 rw[h,jM0]
theorem jE1 (m:Mesh):J0 m 1=(Qh (Qe m).1).2.2.2:=by
 have h:J0 m 1=(Qh (Qm m 1).1).2.2.2:=by
  rw[Ws];generalize Qm m 1=s;rfl
 rw[h,jM1]
theorem jE2 (m:Mesh):J0 m 2=(Qe (Qh (Qe m).1).1).2.2:=by
 have h:J0 m 2=(Qe (Qm m 2).1).2.2:=by
  rw[Ws];generalize Qm m 2=s;rfl
 rw[h,jM2]
theorem jE3 (m:Mesh):J0 m 3=(Zz (Qe (Qh (Qe m).1).1).1).2.2:=by
 have h:J0 m 3=(Zz (Qm m 3).1).2.2:=by
  rw[Ws];generalize Qm m 3=s;rfl
 rw[h,jM3]
theorem jE4 (m:Mesh):J0 m 4=(Zc (Zz (Qe (Qh (Qe m).1).1).1).1).2.2:=by
 have h:J0 m 4=(Zc (Qm m 4).1).2.2:=by
  rw[Ws];generalize Qm m 4=s;rfl
 rw[h,jM4]
theorem jE5 (m:Mesh):J0 m 5=(Yu (Zc (Zz (Qe (Qh (Qe m).1).1).1).1).1).2.2:=by
 have h:J0 m 5=(Yu (Qm m 5).1).2.2:=by
  rw[Ws];generalize Qm m 5=s;rfl
 rw[h,jM5]
theorem jE6 (m:Mesh):J0 m 6=W9 (Yu (Zc (Zz (Qe (Qh (Qe m).1).1).1).1).1).1:=by
 have h:J0 m 6=W9 (Qm m 6).1:=by
  rw[Ws];generalize Qm m 6=s;rfl
 rw[h,jM6]
theorem jR0 (m:Mesh):(Qm m 0).2=Rep.zero:=rfl
theorem jR1 (m:Mesh):(Qm m 1).2=⟨0+(Qe m).2.1,0,0,0,0,0,0⟩:=by
 have h:(Qm m (0+1)).2={ (Qm m 0).2 with me:=(Qm m 0).2.me+(Qe (Qm m 0).1).2.1 }:=by
  rw[Z9];generalize Qm m 0=s;rfl
 rw[show 1=0+1 from rfl,h,jM0,jR0];rfl
theorem jR2 (m:Mesh):(Qm m 2).2=⟨0+(Qe m).2.1,(Qh (Qe m).1).2.1,(Qh (Qe m).1).2.2.1,0,0,0,0⟩:=by
 have h:(Qm m (1+1)).2={ (Qm m 1).2 with de:=(Qh (Qm m 1).1).2.1,du:=(Qh (Qm m 1).1).2.2.1 }:=by
  rw[Z9];generalize Qm m 1=s;rfl
 rw[show 2=1+1 from rfl,h,jM1,jR1]
theorem jR3 (m:Mesh):(Qm m 3).2=⟨0+(Qe m).2.1+(Qe (Qh (Qe m).1).1).2.1,(Qh (Qe m).1).2.1,(Qh (Qe m).1).2.2.1,0,0,0,0⟩:=by
 have h:(Qm m (2+1)).2={ (Qm m 2).2 with me:=(Qm m 2).2.me+(Qe (Qm m 2).1).2.1 }:=by
  rw[Z9];generalize Qm m 2=s;rfl
 rw[show 3=2+1 from rfl,h,jM2,jR2]
theorem jR4 (m:Mesh):(Qm m 4).2=⟨0+(Qe m).2.1+(Qe (Qh (Qe m).1).1).2.1,(Qh (Qe m).1).2.1,(Qh (Qe m).1).2.2.1,(Zz (Qe (Qh (Qe m).1).1).1).2.1,0,0,0⟩:=by
 have h:(Qm m (3+1)).2={ (Qm m 3).2 with fl:=(Zz (Qm m 3).1).2.1 }:=by
  rw[Z9];generalize Qm m 3=s;rfl
 rw[show 4=3+1 from rfl,h,jM3,jR3]
theorem jR5 (m:Mesh):(Qm m 5).2=⟨0+(Qe m).2.1+(Qe (Qh (Qe m).1).1).2.1,(Qh (Qe m).1).2.1,(Qh (Qe m).1).2.2.1,(Zz (Qe (Qh (Qe m).1).1).1).2.1,(Zc (Zz (Qe (Qh (Qe m).1).1).1).1).2.1,0,0⟩:=by
 have h:(Qm m (4+1)).2={ (Qm m 4).2 with ho:=(Zc (Qm m 4).1).2.1 }:=by
  rw[Z9];generalize Qm m 4=s;rfl
 rw[show 5=4+1 from rfl,h,jM4,jR4]
theorem jR6 (m:Mesh):(Qm m 6).2=⟨0+(Qe m).2.1+(Qe (Qh (Qe m).1).1).2.1,(Qh (Qe m).1).2.1,(Qh (Qe m).1).2.2.1,(Zz (Qe (Qh (Qe m).1).1).1).2.1,(Zc (Zz (Qe (Qh (Qe m).1).1).1).1).2.1,(Yu (Zc (Zz (Qe (Qh (Qe m).1).1).1).1).1).2.1,0⟩:=by
 have h:(Qm m (5+1)).2={ (Qm m 5).2 with iv:=(Yu (Qm m 5).1).2.1 }:=by
  rw[Z9];generalize Qm m 5=s;rfl
 rw[show 6=5+1 from rfl,h,jM5,jR5]
theorem jR7 (m:Mesh):(Qm m 7).2=⟨0+(Qe m).2.1+(Qe (Qh (Qe m).1).1).2.1,(Qh (Qe m).1).2.1,(Qh (Qe m).1).2.2.1,(Zz (Qe (Qh (Qe m).1).1).1).2.1,(Zc (Zz (Qe (Qh (Qe m).1).1).1).1).2.1,(Yu (Zc (Zz (Qe (Qh (Qe m).1).1).1).1).1).2.1,((Yu (Zc (Zz (Qe (Qh (Qe m).1).1).1).1).1).1.shells.length:Int)⟩:=by
 have h:(Qm m (6+1)).2={ (Qm m 6).2 with sh:=((Qm m 6).1.shells.length:Int) }:=by
  rw[Z9];generalize Qm m 6=s;rfl
 rw[show 7=6+1 from rfl,h,jM6,jR6]
theorem Qp8 {m:Mesh} {j:Nat} (hj:j<7) (h:∀i,i<j->J0 m i=0) (he:J0 m j≠0):W0 m=(Zb,Rep.zero,J0 m j):=by
 unfold W0
 simp only[]
 by_cases g0:J0 m 0=0
 case neg =>
  have:j=0:=j8 λhh=>g0 (h 0 (by omega))
  subst this;rw[jE0]at g0 ⊢;rw[if_pos g0]
 rw[jE0]at g0;rw[if_neg (by simpa using g0)]
 by_cases g1:J0 m 1=0
 case neg =>
  have:j=1:=by
   have a:¬ j=0:=by rintro rfl;rw[jE0]at he;exact he g0
   exact j8 λhh=>g1 (h 1 (by omega))
  subst this;rw[jE1]at g1 ⊢;rw[if_pos g1]
 rw[jE1]at g1;rw[if_neg (by simpa using g1)]
 by_cases g2:J0 m 2=0
 case neg =>
  have:j=2:=by
   have a0:¬ j=0:=by rintro rfl;rw[jE0]at he;exact he g0
   have a1:¬ j=1:=by rintro rfl;rw[jE1]at he;exact he g1
   exact j8 λhh=>g2 (h 2 (by omega))
  subst this;rw[jE2]at g2 ⊢;rw[if_pos g2]
 rw[jE2]at g2;rw[if_neg (by simpa using g2)]
 have a0:¬ j=0:=by rintro rfl;rw[jE0]at he;exact he g0
 have a1:¬ j=1:=by rintro rfl;rw[jE1]at he;exact he g1
 have a2:¬ j=2:=by rintro rfl;rw[jE2]at he;exact he g2
 by_cases g3:J0 m 3=0
 case neg =>
  have:j=3:=j8 λhh=>g3 (h 3 (by omega))
  subst this;rw[jE3]at g3 ⊢;rw[if_pos g3]
 rw[jE3]at g3;rw[if_neg (by simpa using g3)]
 have a3:¬ j=3:=by rintro rfl;rw[jE3]at he;exact he g3
 by_cases g4:J0 m 4=0
 case neg =>
  have:j=4:=j8 λhh=>g4 (h 4 (by omega))
  subst this;rw[jE4]at g4 ⊢;rw[if_pos g4]
 rw[jE4]at g4;rw[if_neg (by simpa using g4)]
 have a4:¬ j=4:=by rintro rfl;rw[jE4]at he;exact he g4
 by_cases g5:J0 m 5=0
 case neg =>
  have:j=5:=j8 λhh=>g5 (h 5 (by omega))
  subst this;rw[jE5]at g5 ⊢;rw[if_pos g5]
 rw[jE5]at g5;rw[if_neg (by simpa using g5)]
 have a5:¬ j=5:=by rintro rfl;rw[jE5]at he;exact he g5
 obtain rfl:j=6:=by omega
 rw[jE6]at he ⊢
 rw[if_pos he]
theorem Ql7 {m:Mesh} (g:∀i,i<7->J0 m i=0):W0 m=((Qm m 7).1,(Qm m 7).2,0):=by
 have h0:=g 0 (by omega);have h1:=g 1 (by omega);have h2:=g 2 (by omega);have h3:=g 3 (by omega);have h4:=g 4 (by omega);have h5:=g 5 (by omega);have h6:=g 6 (by omega)
 rw[jE0]at h0;rw[jE1]at h1;rw[jE2]at h2;rw[jE3]at h3;rw[jE4]at h4;rw[jE5]at h5;rw[jE6]at h6
 rw[jM7,jR7]
 unfold W0
 simp only[]
 rw[if_neg (by simpa using h0),if_neg (by simpa using h1),if_neg (by simpa using h2),if_neg (by simpa using h3),if_neg (by simpa using h4),if_neg (by simpa using h5),if_neg (by simpa using h6),Int.zero_add]
def jobF (fw fc fo ff fu fk:FuncId):Nat->FuncId
 | 0=>fw
 | 1=>fc
 | 2=>fw
 | 3=>fo
 | 4=>ff
 | 5=>fu
 | _=>fk
def Qgv (fw fc fo ff fu fk:FuncId):List (List V):=[[.f fw []],[.f fc []],[.f fw []],[.f fo []],[.f ff []],[.f fu []],[.f fk []]]
theorem Qqo (fw fc fo ff fu fk:FuncId) {k:Nat} (h:k<7):(Qgv fw fc fo ff fu fk)[k]?=some [.f (jobF fw fc fo ff fu fk k) []]:=by
 match k,h with
 | 0,_=>rfl
 | 1,_=>rfl
 | 2,_=>rfl
 | 3,_=>rfl
 | 4,_=>rfl
 | 5,_=>rfl
 | 6,_=>rfl
def okJ (_:Mesh) (r:Rep):Prop:=0<=r.me/\r.me<=1000000
noncomputable def Ql8 (p:Mesh × Rep × Int):V:=if p.2.2=0 then Qg4 p else .t [.a [.nil,.nil],.a Rep.zero.cs,.i .i64 p.2.2]
theorem repN_le (m:Mesh):Le (Ql8 (W0 m)) (Qg4 (W0 m)):=by
 rcases Q51 m with⟨h,h2⟩ | ⟨h,_⟩
 ·unfold Ql8
  rw[if_neg h]
  have h3:=repV_no (W0 m).2.2
  rw[<- h2]at h3
  exact h3
 ·unfold Ql8
  rw[if_pos h]
  exact Le.refl _
section
variable {P:Program} (hm:P.follows .mixedOrders=true)
include hm
theorem Q1m {f fw fc fo ff fu fk:FuncId} (hf:Qa P f (L18.c fw fc fo ff fu fk) L18.r L18.n)
  (hj:∀k,k<7->Z3 P (jobF fw fc fo ff fu fk k)=true/\Q2o P (jobF fw fc fo ff fu fk k) okJ (Ut k)):RepC P f:=by
 intro m
 refine CallIs.res (r:=Ql8 (W0 m)) ?_ (repN_le m)
 refine PureC.is (Q8 hm hf (qh rfl) ?_) rfl
 unfold L18.c
 have hget:=λk (h:k<7)=>Qqo fw fc fo ff fu fk h
 have hL:∀a,a=Qgv fw fc fo ff fu fk->a.length=7:=λa h=>by rw[h];rfl
 simp[go_sem,Mesh.enc,Mesh.cs]
 refine Qf (α:=Nat) (λk=>k<=7/\∀i,i<k->J0 m i=0)
  (λk=>⟨[(2,.p 1 1 0 0),(3,.p 2 1 0 0),(6,.p 4 1 0 0),(14,.own 3 1 0 7),(15,.i .i64 7),(16,.i .i64 k)],
   [.arr 1 2 [m.cs],.arr 1 2 [[.nil,.nil]],.arr 1 7 [Rep.zero.cs],.arr 1 1 (Qgv fw fc fo ff fu fk),Jh (Qm m k).1 (Qm m k).2]⟩)
  (λk=>7-k) 0 ⟨Nat.zero_le _,by simp⟩ ?_ ?_
 ·simp[go_sem,Qm,Jh,Qgv,Mesh.cs,Rep.cs,Rep.zero,vsV,tsV]
 ·rintro k ⟨hk,hno⟩
  by_cases hkl:k=7
  ·subst hkl
   rw[Ql7 hno]
   simp[go_sem,Jh,L18.r,Ql8,Qg4,Mesh.cs,Rep.cs,Mesh.enc,vsV,tsV,Kf,Xj]
  ·have hlt:k<7:=by omega
   obtain⟨hcal,hjob⟩:=hj k hlt
   have hg:=hget k hlt
   have hme:=Qja m k
   have hlt7:(k:Int)<7:=by omega
   have hlen:(Qgv fw fc fo ff fu fk).length=7:=rfl
   generalize hjl:Qgv fw fc fo ff fu fk=JL at *
   obtain⟨_,hg'⟩:=q8.1 hg
   simp[go_sem,hlt,hlt7,hg,hg']
   refine⟨hcal,(hjob [.arr 1 2 [m.cs],.arr 1 2 [[.nil,.nil]],.arr 1 7 [Rep.zero.cs],.arr 1 1 JL,Jh (Qm m k).1 (Qm m k).2] 4 _ _ ⟨hme.1,by omega⟩ rfl).mono ?_⟩
   rintro r h' ⟨rfl,rfl⟩
   by_cases he:J0 m k=0
   ·simp[go_sem,show (Ut k (Qm m k).1 (Qm m k).2).2.2=0 from he,hlt,Q3]
    refine⟨k+1,⟨by omega,λi hi=>?_⟩,by omega,by rw[Q3 (by omega) (by omega)];omega,λx hx=>?_,λx hx=>?_,λel hel x hx=>?_,.inr ⟨by rw[Z9],Qjb _ _ 5⟩⟩
    ·by_cases hik:i=k
     ·subst hik;exact he
     ·exact hno i (by omega)
    ·simp[Mesh.cs]at hx
     rcases hx with rfl | rfl<;>rfl
    ·simp[Rep.cs,Rep.zero]at hx
     subst hx;rfl
    ·rw[<- hjl]at hel
     simp[Qgv]at hel
     rcases hel with rfl | rfl | rfl | rfl | rfl | rfl | rfl<;>(simp at hx;subst hx;rfl)
   ·rw[Qp8 hlt hno he]
    simp[go_sem,show ¬ (Ut k (Qm m k).1 (Qm m k).2).2.2=0 from he,L18.r,Ql8,Rep.zero,Rep.cs]
    rw[if_neg he];rfl
end
end Go.Abs
