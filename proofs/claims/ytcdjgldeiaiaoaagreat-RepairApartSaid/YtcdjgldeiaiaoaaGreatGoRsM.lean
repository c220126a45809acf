/- Part of the library on which the proof stands: an abstract machine, its values and its soundness against the model; or what functions of the program do to such values. -/
import Derived.Test.YtcdjgldeiaiaoaaGreatGoRpE
import Derived.Test.YtcdjgldeiaiaoaaGreatGoShpA
import Derived.Test.YtcdjgldeiaiaoaaGreatGoShpN
import Derived.Test.YtcdjgldeiaiaoaaGreatGoRp
import Derived.Test.YtcdjgldeiaiaoaaGreatGoWeA
import Derived.Test.YtcdjgldeiaiaoaaGreatAbsSS
import Derived.Test.YtcdjgldeiaiaoaaGreatGoToA
import Derived.Test.YtcdjgldeiaiaoaaGreatGoRevC
import Derived.Test.YtcdjgldeiaiaoaaGreatGoLp
set_option linter.unusedVariables false
set_option linter.unusedSimpArgs false
set_option maxHeartbeats 8000000
set_option maxRecDepth 20000
namespace Go.Abs
noncomputable def U0:Nat->Mesh->Rep->Mesh × Rep × Int
 | 0=>λm r=>((Qb m).1,{ r with me:=r.me+(Qb m).2.1 },(Qb m).2.2)
 | 1=>λm r=>((Qe m).1,{ r with de:=(Qe m).2.1,du:=(Qe m).2.2.1 },(Qe m).2.2.2)
 | 2=>λm r=>((Qb m).1,{ r with me:=r.me+(Qb m).2.1 },(Qb m).2.2)
 | 3=>λm r=>((Zr m).1,{ r with fl:=(Zr m).2.1 },(Zr m).2.2)
 | 4=>λm r=>((Qt m).1,{ r with ho:=(Qt m).2.1 },(Qt m).2.2)
 | 5=>λm r=>((Zm m).1,{ r with iv:=(Zm m).2.1 },(Zm m).2.2)
 | _=>λm r=>(m,{ r with sh:=(m.shells.length:Int) },K4 m)
noncomputable def Qh (m:Mesh):Nat->Mesh × Rep
 | 0=>(m,Rep.zero)
 | k+1=>((U0 k (Qh m k).1 (Qh m k).2).1,(U0 k (Qh m k).1 (Qh m k).2).2.1)
noncomputable def Xu (m:Mesh) (k:Nat):Int:=(U0 k (Qh m k).1 (Qh m k).2).2.2
theorem jobG_me (k:Nat) (m:Mesh) (r:Rep):(U0 k m r).2.1.me=r.me∨(U0 k m r).2.1.me=r.me+(Qb m).2.1:=by
 match k with
 | 0=>exact .inr rfl
 | 1=>exact .inl rfl
 | 2=>exact .inr rfl
 | 3=>exact .inl rfl
 | 4=>exact .inl rfl
 | 5=>exact .inl rfl
 | k+6=>exact .inl rfl
theorem Z3 (m:Mesh) (k:Nat):Qh m (k+1)=((U0 k (Qh m k).1 (Qh m k).2).1,(U0 k (Qh m k).1 (Qh m k).2).2.1):=rfl
theorem Qf1 (m:Mesh):∀k:Nat,0<=(Qh m k).2.me/\(Qh m k).2.me<=4096*k
 | 0=>by simp[Qh,Rep.zero]
 | k+1=>by
   have ih:=Qf1 m k
   have hw:=Q64 (Qh m k).1
   have hg:=jobG_me k (Qh m k).1 (Qh m k).2
   rw[Z3]
   simp only[]
   omega
theorem W0 (m:Mesh) (k:Nat):Xu m k=(U0 k (Qh m k).1 (Qh m k).2).2.2:=rfl
theorem jM0 (m:Mesh):(Qh m 0).1=m:=rfl
theorem jM1 (m:Mesh):(Qh m 1).1=(Qb m).1:=by
 have h:(Qh m (0+1)).1=(Qb (Qh m 0).1).1:=by
  rw[Z3];generalize Qh m 0=s;rfl
 rw[show 1=0+1 from rfl,h,jM0]
theorem jM2 (m:Mesh):(Qh m 2).1=(Qe (Qb m).1).1:=by
 have h:(Qh m (1+1)).1=(Qe (Qh m 1).1).1:=by
  rw[Z3];generalize Qh m 1=s;rfl
 rw[show 2=1+1 from rfl,h,jM1]
theorem jM3 (m:Mesh):(Qh m 3).1=(Qb (Qe (Qb m).1).1).1:=by
 have h:(Qh m (2+1)).1=(Qb (Qh m 2).1).1:=by
  rw[Z3];generalize Qh m 2=s;rfl
 rw[show 3=2+1 from rfl,h,jM2]
theorem jM4 (m:Mesh):(Qh m 4).1=(Zr (Qb (Qe (Qb m).1).1).1).1:=by
 have h:(Qh m (3+1)).1=(Zr (Qh m 3).1).1:=by
  rw[Z3];generalize Qh m 3=s;rfl
 rw[show 4=3+1 from rfl,h,jM3]
theorem jM5 (m:Mesh):(Qh m 5).1=(Qt (Zr (Qb (Qe (Qb m).1).1).1).1).1:=by
 have h:(Qh m (4+1)).1=(Qt (Qh m 4).1).1:=by
  rw[Z3];generalize Qh m 4=s;rfl
 rw[show 5=4+1 from rfl,h,jM4]
theorem jM6 (m:Mesh):(Qh m 6).1=(Zm (Qt (Zr (Qb (Qe (Qb m).1).1).1).1).1).1:=by
 have h:(Qh m (5+1)).1=(Zm (Qh m 5).1).1:=by
  rw[Z3];generalize Qh m 5=s;rfl
 rw[show 6=5+1 from rfl,h,jM5]
theorem jM7 (m:Mesh):(Qh m 7).1=(Zm (Qt (Zr (Qb (Qe (Qb m).1).1).1).1).1).1:=by
 have h:(Qh m (6+1)).1=(Qh m 6).1:=by
  rw[Z3];generalize Qh m 6=s;rfl
 rw[show 7=6+1 from rfl,h,jM6]
theorem jE0 (m:Mesh):Xu m 0=(Qb m).2.2:=by
 have h:Xu m 0=(Qb (Qh m 0).1).2.2:=by
  rw[W0];generalize Qh m 0=s;rfl
 rw[h,jM0]
theorem jE1 (m:Mesh):Xu m 1=(Qe (Qb m).1).2.2.2:=by
 have h:Xu m 1=(Qe (Qh m 1).1).2.2.2:=by
  rw[W0];generalize Qh m 1=s;rfl
 rw[h,jM1]
theorem jE2 (m:Mesh):Xu m 2=(Qb (Qe (Qb m).1).1).2.2:=by
 have h:Xu m 2=(Qb (Qh m 2).1).2.2:=by
  rw[W0];generalize Qh m 2=s;rfl
 rw[h,jM2]
theorem jE3 (m:Mesh):Xu m 3=(Zr (Qb (Qe (Qb m).1).1).1).2.2:=by
 have h:Xu m 3=(Zr (Qh m 3).1).2.2:=by
  rw[W0];generalize Qh m 3=s;rfl
 rw[h,jM3]
theorem jE4 (m:Mesh):Xu m 4=(Qt (Zr (Qb (Qe (Qb m).1).1).1).1).2.2:=by
 have h:Xu m 4=(Qt (Qh m 4).1).2.2:=by
  rw[W0];generalize Qh m 4=s;rfl
 rw[h,jM4]
theorem jE5 (m:Mesh):Xu m 5=(Zm (Qt (Zr (Qb (Qe (Qb m).1).1).1).1).1).2.2:=by
 have h:Xu m 5=(Zm (Qh m 5).1).2.2:=by
  rw[W0];generalize Qh m 5=s;rfl
 rw[h,jM5]
theorem jE6 (m:Mesh):Xu m 6=K4 (Zm (Qt (Zr (Qb (Qe (Qb m).1).1).1).1).1).1:=by
 have h:Xu m 6=K4 (Qh m 6).1:=by
  rw[W0];generalize Qh m 6=s;rfl
 rw[h,jM6]
theorem jR0 (m:Mesh):(Qh m 0).2=Rep.zero:=rfl
theorem jR1 (m:Mesh):(Qh m 1).2=⟨0+(Qb m).2.1,0,0,0,0,0,0⟩:=by
 have h:(Qh m (0+1)).2={ (Qh m 0).2 with me:=(Qh m 0).2.me+(Qb (Qh m 0).1).2.1 }:=by
  rw[Z3];generalize Qh m 0=s;rfl
 rw[show 1=0+1 from rfl,h,jM0,jR0];rfl
theorem jR2 (m:Mesh):(Qh m 2).2=⟨0+(Qb m).2.1,(Qe (Qb m).1).2.1,(Qe (Qb m).1).2.2.1,0,0,0,0⟩:=by
 have h:(Qh m (1+1)).2={ (Qh m 1).2 with de:=(Qe (Qh m 1).1).2.1,du:=(Qe (Qh m 1).1).2.2.1 }:=by
  rw[Z3];generalize Qh m 1=s;rfl
 rw[show 2=1+1 from rfl,h,jM1,jR1]
theorem jR3 (m:Mesh):(Qh m 3).2=⟨0+(Qb m).2.1+(Qb (Qe (Qb m).1).1).2.1,(Qe (Qb m).1).2.1,(Qe (Qb m).1).2.2.1,0,0,0,0⟩:=by
 have h:(Qh m (2+1)).2={ (Qh m 2).2 with me:=(Qh m 2).2.me+(Qb (Qh m 2).1).2.1 }:=by
  rw[Z3];generalize Qh m 2=s;rfl
 rw[show 3=2+1 from rfl,h,jM2,jR2]
theorem jR4 (m:Mesh):(Qh m 4).2=⟨0+(Qb m).2.1+(Qb (Qe (Qb m).1).1).2.1,(Qe (Qb m).1).2.1,(Qe (Qb m).1).2.2.1,(Zr (Qb (Qe (Qb m).1).1).1).2.1,0,0,0⟩:=by
 have h:(Qh m (3+1)).2={ (Qh m 3).2 with fl:=(Zr (Qh m 3).1).2.1 }:=by
  rw[Z3];generalize Qh m 3=s;rfl
 rw[show 4=3+1 from rfl,h,jM3,jR3]
theorem jR5 (m:Mesh):(Qh m 5).2=⟨0+(Qb m).2.1+(Qb (Qe (Qb m).1).1).2.1,(Qe (Qb m).1).2.1,(Qe (Qb m).1).2.2.1,(Zr (Qb (Qe (Qb m).1).1).1).2.1,(Qt (Zr (Qb (Qe (Qb m).1).1).1).1).2.1,0,0⟩:=by
 have h:(Qh m (4+1)).2={ (Qh m 4).2 with ho:=(Qt (Qh m 4).1).2.1 }:=by
  rw[Z3];generalize Qh m 4=s;rfl
 rw[show 5=4+1 from rfl,h,jM4,jR4]
theorem jR6 (m:Mesh):(Qh m 6).2=⟨0+(Qb m).2.1+(Qb (Qe (Qb m).1).1).2.1,(Qe (Qb m).1).2.1,(Qe (Qb m).1).2.2.1,(Zr (Qb (Qe (Qb m).1).1).1).2.1,(Qt (Zr (Qb (Qe (Qb m).1).1).1).1).2.1,(Zm (Qt (Zr (Qb (Qe (Qb m).1).1).1).1).1).2.1,0⟩:=by
 have h:(Qh m (5+1)).2={ (Qh m 5).2 with iv:=(Zm (Qh m 5).1).2.1 }:=by
  rw[Z3];generalize Qh m 5=s;rfl
 rw[show 6=5+1 from rfl,h,jM5,jR5]
theorem jR7 (m:Mesh):(Qh m 7).2=⟨0+(Qb m).2.1+(Qb (Qe (Qb m).1).1).2.1,(Qe (Qb m).1).2.1,(Qe (Qb m).1).2.2.1,(Zr (Qb (Qe (Qb m).1).1).1).2.1,(Qt (Zr (Qb (Qe (Qb m).1).1).1).1).2.1,(Zm (Qt (Zr (Qb (Qe (Qb m).1).1).1).1).1).2.1,((Zm (Qt (Zr (Qb (Qe (Qb m).1).1).1).1).1).1.shells.length:Int)⟩:=by
 have h:(Qh m (6+1)).2={ (Qh m 6).2 with sh:=((Qh m 6).1.shells.length:Int) }:=by
  rw[Z3];generalize Qh m 6=s;rfl
 rw[show 7=6+1 from rfl,h,jM6,jR6]
theorem Qjv {m:Mesh} {j:Nat} (hj:j<7) (h:∀i,i<j->Xu m i=0) (he:Xu m j≠0):Y2 m=(noMesh,Rep.zero,Xu m j):=by
 unfold Y2
 simp only[]
 by_cases g0:Xu m 0=0
 case neg =>
  have:j=0:=j7 λhh=>g0 (h 0 (by omega))
  subst this;rw[jE0]at g0 ⊢;rw[if_pos g0]
 rw[jE0]at g0;rw[if_neg (by simpa using g0)]
 by_cases g1:Xu m 1=0
 case neg =>
  have:j=1:=by
   have a:¬ j=0:=by rintro rfl;rw[jE0]at he;exact he g0
   exact j7 λhh=>g1 (h 1 (by omega))
  subst this;rw[jE1]at g1 ⊢;rw[if_pos g1]
 rw[jE1]at g1;rw[if_neg (by simpa using g1)]
 by_cases g2:Xu m 2=0
 case neg =>
  have:j=2:=by
   have a0:¬ j=0:=by rintro rfl;rw[jE0]at he;exact he g0
   have a1:¬ j=1:=by rintro rfl;rw[jE1]at he;exact he g1
   exact j7 λhh=>g2 (h 2 (by omega))
  subst this;rw[jE2]at g2 ⊢;rw[if_pos g2]
 rw[jE2]at g2;rw[if_neg (by simpa using g2)]
 have a0:¬ j=0:=by rintro rfl;rw[jE0]at he;exact he g0
 have a1:¬ j=1:=by rintro rfl;rw[jE1]at he;exact he g1
 have a2:¬ j=2:=by rintro rfl;rw[jE2]at he;exact he g2
 by_cases g3:Xu m 3=0
 case neg =>
  have:j=3:=j7 λhh=>g3 (h 3 (by omega))
  subst this;rw[jE3]at g3 ⊢;rw[if_pos g3]
 rw[jE3]at g3;rw[if_neg (by simpa using g3)]
 have a3:¬ j=3:=by rintro rfl;rw[jE3]at he;exact he g3
 by_cases g4:Xu m 4=0
 case neg =>
  have:j=4:=j7 λhh=>g4 (h 4 (by omega))
  subst this;rw[jE4]at g4 ⊢;rw[if_pos g4]
 rw[jE4]at g4;rw[if_neg (by simpa using g4)]
 have a4:¬ j=4:=by rintro rfl;rw[jE4]at he;exact he g4
 by_cases g5:Xu m 5=0
 case neg =>
  have:j=5:=j7 λhh=>g5 (h 5 (by omega))
  subst this;rw[jE5]at g5 ⊢;rw[if_pos g5]
 rw[jE5]at g5;rw[if_neg (by simpa using g5)]
 have a5:¬ j=5:=by rintro rfl;rw[jE5]at he;exact he g5
 obtain rfl:j=6:=by omega
 rw[jE6]at he ⊢
 rw[if_pos he]
theorem Qgk {m:Mesh} (g:∀i,i<7->Xu m i=0):Y2 m=((Qh m 7).1,(Qh m 7).2,0):=by
 have h0:=g 0 (by omega);have h1:=g 1 (by omega);have h2:=g 2 (by omega);have h3:=g 3 (by omega);have h4:=g 4 (by omega);have h5:=g 5 (by omega);have h6:=g 6 (by omega)
 rw[jE0]at h0;rw[jE1]at h1;rw[jE2]at h2;rw[jE3]at h3;rw[jE4]at h4;rw[jE5]at h5;rw[jE6]at h6
 rw[jM7,jR7]
 unfold Y2
 simp only[]
 rw[if_neg (by simpa using h0),if_neg (by simpa using h1),if_neg (by simpa using h2),if_neg (by simpa using h3),if_neg (by simpa using h4),if_neg (by simpa using h5),if_neg (by simpa using h6),Int.zero_add]
def jobF (fw fc fo ff fu fk:FuncId):Nat->FuncId
 | 0=>fw
 | 1=>fc
 | 2=>fw
 | 3=>fo
 | 4=>ff
 | 5=>fu
 | _=>fk
def Qd2 (fw fc fo ff fu fk:FuncId):List (List V):=[[.f fw []],[.f fc []],[.f fw []],[.f fo []],[.f ff []],[.f fu []],[.f fk []]]
theorem Qky (fw fc fo ff fu fk:FuncId) {k:Nat} (h:k<7):(Qd2 fw fc fo ff fu fk)[k]?=some [.f (jobF fw fc fo ff fu fk k) []]:=by
 match k,h with
 | 0,_=>rfl
 | 1,_=>rfl
 | 2,_=>rfl
 | 3,_=>rfl
 | 4,_=>rfl
 | 5,_=>rfl
 | 6,_=>rfl
def okJ (_:Mesh) (r:Rep):Prop:=0<=r.me/\r.me<=1000000
noncomputable def Qgl (p:Mesh × Rep × Int):V:=if p.2.2=0 then Q7h p else .t [.a [.nil,.nil],.a Rep.zero.cs,.i .i64 p.2.2]
theorem repN_le (m:Mesh):Le (Qgl (Y2 m)) (Q7h (Y2 m)):=by
 rcases Q3a m with⟨h,h2⟩ | ⟨h,_⟩
 ·unfold Qgl
  rw[if_neg h]
  have h3:=repV_no (Y2 m).2.2
  rw[<- h2]at h3
  exact h3
 ·unfold Qgl
  rw[if_pos h]
  exact Le.refl _
section
variable {P:Program} (hm:P.follows .mixedOrders=true)
include hm
theorem Q0e {f fw fc fo ff fu fk:FuncId} (hf:Qc P f (L0w.c fw fc fo ff fu fk) L0w.r L0w.n)
  (hj:∀k,k<7->Z4 P (jobF fw fc fo ff fu fk k)=true/\Q1c P (jobF fw fc fo ff fu fk k) okJ (U0 k)):RepC P f:=by
 intro m
 refine CallIs.res (r:=Qgl (Y2 m)) ?_ (repN_le m)
 refine PureC.is (Q9 hm hf (qh rfl) ?_) rfl
 unfold L0w.c
 have hget:=λk (h:k<7)=>Qky fw fc fo ff fu fk h
 have hL:∀a,a=Qd2 fw fc fo ff fu fk->a.length=7:=λa h=>by rw[h];rfl
 simp[go_sem,Mesh.enc,Mesh.cs]
 refine Ql (α:=Nat) (λk=>k<=7/\∀i,i<k->Xu m i=0)
  (λk=>⟨[(2,.p 1 1 0 0),(3,.p 2 1 0 0),(6,.p 4 1 0 0),(14,.own 3 1 0 7),(15,.i .i64 7),(16,.i .i64 k)],
   [.arr 1 2 [m.cs],.arr 1 2 [[.nil,.nil]],.arr 1 7 [Rep.zero.cs],.arr 1 1 (Qd2 fw fc fo ff fu fk),J8 (Qh m k).1 (Qh m k).2]⟩)
  (λk=>7-k) 0 ⟨Nat.zero_le _,by simp⟩ ?_ ?_
 ·simp[go_sem,Qh,J8,Qd2,Mesh.cs,Rep.cs,Rep.zero,vsV,tsV]
 ·rintro k ⟨hk,hno⟩
  by_cases hkl:k=7
  ·subst hkl
   rw[Qgk hno]
   simp[go_sem,J8,L0w.r,Qgl,Q7h,Mesh.cs,Rep.cs,Mesh.enc,vsV,tsV,Yy,Y4]
  ·have hlt:k<7:=by omega
   obtain⟨hcal,hjob⟩:=hj k hlt
   have hg:=hget k hlt
   have hme:=Qf1 m k
   have hlt7:(k:Int)<7:=by omega
   have hlen:(Qd2 fw fc fo ff fu fk).length=7:=rfl
   generalize hjl:Qd2 fw fc fo ff fu fk=JL at *
   obtain⟨_,hg'⟩:=q8.1 hg
   simp[go_sem,hlt,hlt7,hg,hg']
   refine⟨hcal,(hjob [.arr 1 2 [m.cs],.arr 1 2 [[.nil,.nil]],.arr 1 7 [Rep.zero.cs],.arr 1 1 JL,J8 (Qh m k).1 (Qh m k).2] 4 _ _ ⟨hme.1,by omega⟩ rfl).mono ?_⟩
   rintro r h' ⟨rfl,rfl⟩
   by_cases he:Xu m k=0
   ·simp[go_sem,show (U0 k (Qh m k).1 (Qh m k).2).2.2=0 from he,hlt,Q3]
    refine⟨k+1,⟨by omega,λi hi=>?_⟩,by omega,by rw[Q3 (by omega) (by omega)];omega,λx hx=>?_,λx hx=>?_,λel hel x hx=>?_,.inr ⟨by rw[Z3],Qf2 _ _ 5⟩⟩
    ·by_cases hik:i=k
     ·subst hik;exact he
     ·exact hno i (by omega)
    ·simp[Mesh.cs]at hx
     rcases hx with rfl | rfl<;>rfl
    ·simp[Rep.cs,Rep.zero]at hx
     subst hx;rfl
    ·rw[<- hjl]at hel
     simp[Qd2]at hel
     rcases hel with rfl | rfl | rfl | rfl | rfl | rfl | rfl<;>(simp at hx;subst hx;rfl)
   ·rw[Qjv hlt hno he]
    simp[go_sem,show ¬ (U0 k (Qh m k).1 (Qh m k).2).2.2=0 from he,L0w.r,Qgl,Rep.zero,Rep.cs]
    rw[if_neg he];rfl
end
def L06.c (L07 L0s L08 L0r L14 L0t L0w L0u:FuncId):C :=(.seq (.reg [Au 1 (.box (.t 0)),Ab 2 false]) (.seq (.seq (.reg [Ag 16 2 1,Au 17 (.call L07 [.t 16]),Au 18 (.un .not (.t 17)),Am 19 18,Aw 20 19 (.ld (some 2) (.t 1)),Aw 21 19 (.call L0s [.t 20]),Aw 22 19 (.bin .neq (.t 21) (.c (.i .i64 0))),Ao 23 19 22,Am 24 23,Aw 25 24 (.fa 0 (.t 1)),Aw 26 24 (.ld none (.t 25)),Aw 27 24 (.len 0 (.t 26)),Aw 28 24 (.bin .eql (.t 27) (.c (.i .i64 0))),Ao 29 24 28]) (.ite (.t 29) (.seq (.reg [Au 30 (.call L08 []),Am 2 30]) .ret) .skip)) (.seq (.reg [Ag 32 2 1,Au 33 (.call L0r [.t 32]),Am 31 33,Ax1 34 0 31,Ax1 35 1 31,
 Ax1 36 2 31,Au 3 (.alloc [(.i .i64 0),(.i .i64 0),(.i .i64 0)]),Au 4 (.alloc [(.i .i64 0),(.i .i64 0),(.i .i64 0)]),As 3 3 34,As 3 4 35,Am 5 36]) (.seq (.reg [Af 37 0 4,Al 38 37,Af 39 0 3,Al 40 39,Aj .sub 41 38 40,Ad 42 41 1,Am 6 42]) (.seq (.seq (.reg [Af 43 0 4,Al 44 43,Am 45 6,Aj .add 46 44 45,Ak .gtr 47 46 65536]) (.ite (.t 47) (.seq (.reg [Au 48 (.call L08 []),Am 2 48]) .ret) .skip)) (.seq (.reg [Ag 50 2 1,Am 51 6,Au 52 (.build [(.i .i64 0),(.i .i64 0),(.i .i64 0)] [(0,1,(.t 51))]),Au 53 (.call L14 [.t 50,.t 52]),Am 49 53,Ax1 54 0 49,Ax1 55 1 49,Au 7 (.alloc [.nil,.nil]),As 2 7 54,Am 8 55])
 (.seq (.seq (.reg [Am 56 8,Ak .neq 57 56 0]) (.ite (.t 57) (.seq (.reg [Ab 2 false]) .ret) .skip)) (.seq (.reg [Ag 59 2 1,Ag 60 2 7,Au 61 (.call L0t [.t 59,.t 60]),Am 58 61,Ax1 62 0 58,Ax1 63 1 58,Au 9 (.alloc [.nil,.nil]),As 2 9 62,Am 8 63]) (.seq (.seq (.reg [Am 64 8,Ak .neq 65 64 0]) (.ite (.t 65) (.seq (.reg [Ab 2 false]) .ret) .skip)) (.seq (.reg [Ag 67 2 1,Au 68 (.call L0w [.t 67]),Am 66 68,Ax1 69 0 66,Ax1 70 1 66,Ax1 71 2 66,Au 10 (.alloc [.nil,.nil]),Au 11 (.alloc [(.i .i64 0),(.i .i64 0),(.i .i64 0),(.i .i64 0),(.i .i64 0),(.i .i64 0),(.i .i64 0)]),As 2 10 69,As 7 11 70,Am 12 71]) (.seq
 (.reg [Ag 73 2 9,Au 74 (.call L0w [.t 73]),Am 72 74,Ax1 75 0 72,Ax1 76 1 72,Ax1 77 2 72,Au 13 (.alloc [.nil,.nil]),Au 14 (.alloc [(.i .i64 0),(.i .i64 0),(.i .i64 0),(.i .i64 0),(.i .i64 0),(.i .i64 0),(.i .i64 0)]),As 2 13 75,As 7 14 76,Am 15 77]) (.seq (.seq (.reg [Am 78 12,Ak .neq 79 78 0]) (.ite (.t 79) (.seq (.reg [Am 80 15,Am 81 12,Aj .eql 82 80 81,Am 83 82,Av 84 83 (.call L08 []),Ap 85 83 84,Am 2 85]) .ret) .skip)) (.seq (.drw [Am 86 15,Ak .eql 87 86 0,Am 88 87,Av 89 88 (.fa 6 (.t 14)),Av 90 88 (.ld none (.t 89)),Av 91 88 (.fa 6 (.t 11)),Av 92 88 (.ld none (.t 91)),Av 93 88 (.bin .mul (.c (.i .i64 2)) (.t 92)),
 Av 94 88 (.bin .eql (.t 90) (.t 93)),Ap 95 88 94,Am 96 95,Av 97 96 (.fa 4 (.t 14)),Av 98 96 (.ld none (.t 97)),Av 99 96 (.fa 4 (.t 11)),Av 100 96 (.ld none (.t 99)),Av 101 96 (.bin .mul (.c (.i .i64 2)) (.t 100)),Av 102 96 (.bin .eql (.t 98) (.t 101)),Ap 103 96 102,Am 104 103,Av 105 104 (.ld (some 2) (.t 13)),Av 106 104 (.call L0u [.t 105]),Av 107 104 (.ld (some 2) (.t 10)),Av 108 104 (.call L0u [.t 107]),Av 109 104 (.bin .mul (.c (.i .i64 2)) (.t 108)),Av 110 104 (.bin .eql (.t 106) (.t 109)),Ap 111 104 110,Am 112 111,Av 113 112 (.call L08 []),Ap 114 112 113,Am 2 114] [[],[],[],[],[],[],[],[],[],[],[],[],[],[],[],[],[],[],[],[],[],[20],[],[],[],[],[],[],[],[]])
 .ret)))))))))))))
def L06.r:List Rr:=[.tmp 2]
abbrev L06.n:Nat:=115
def L0r.c (L0s L0k:FuncId):C :=(.seq (.reg [Au 1 (.box (.t 0)),Au 2 (.alloc [(.i .i64 0),(.i .i64 0),(.i .i64 0)]),Au 3 (.alloc [(.i .i64 0),(.i .i64 0),(.i .i64 0)]),Ab 4 false]) (.seq (.seq (.reg [Ag 5 2 1,Au 6 (.call L0s [.t 5]),Ak .neq 7 6 0]) (.ite (.t 7) (.seq (.reg [Au 8 (.build [(.i .i64 0),(.i .i64 0),(.i .i64 0)] []),Au 9 (.build [(.i .i64 0),(.i .i64 0),(.i .i64 0)] []),As 3 2 8,As 3 3 9,Ab 4 false]) .ret) .skip)) (.seq (.reg [Af 10 0 1,Al 11 10,Au 12 (.call L0k [.t 11]),Ax1 13 0 12,Ax1 14 1 12,Ax1 15 2 12,As 3 2 13,As 3 3 14,Am 4 15]) .ret)))
def L0r.r:List Rr:=[.cell 2 (some 3),.cell 3 (some 3),.tmp 4]
abbrev L0r.n:Nat:=16
def L0k.c:C :=(.seq (.reg [Au 2 (.alloc [(.i .i64 0),(.i .i64 0),(.i .i64 0)]),Au 3 (.alloc [(.i .i64 0),(.i .i64 0),(.i .i64 0)]),Ab 4 false]) (.seq (.seq (.reg [Am 9 0,An 10 0 9,Ak .eql 11 10 0]) (.ite (.t 11) (.seq (.reg [Au 12 (.build [(.i .i64 0),(.i .i64 0),(.i .i64 0)] []),Au 13 (.build [(.i .i64 0),(.i .i64 0),(.i .i64 0)] []),As 3 2 12,As 3 3 13,Ab 4 false]) .ret) .skip)) (.seq (.drw [Am 14 0,Au 15 (.ia 3 (.t 14) (.c (.i .i64 0))),Ag 16 3 15,Am 17 0,Au 18 (.ia 3 (.t 17) (.c (.i .i64 0))),Ag 19 3 18,Au 5 (.alloc [(.i .i64 0),(.i .i64 0),(.i .i64 0)]),Au 6 (.alloc [(.i .i64 0),(.i .i64 0),(.i .i64 0)]),
 As 3 5 16,As 3 6 19] [[],[],[],[],[],[],[],[],[4,5],[]]) (.seq (.seq (.reg [Am 20 0,An 21 0 20,Ac 22 0]) (.blk 0 (.loop (.seq (.reg [Aj .lss 23 22 21]) (.seq (.ite (.t 23) .skip (.exit 0)) (.seq (.blk 1 (.seq (.reg [Ai 24 3 20 22,Ag 25 3 24,Au 8 (.alloc [(.i .i64 0),(.i .i64 0),(.i .i64 0)]),As 3 8 25]) (.seq (.reg [Af 26 0 5,Al 27 26,Af 28 0 8,Al 29 28,Au 30 (.mn [.t 27,.t 29]),Af 31 1 5,Al 32 31,Af 33 1 8,Al 34 33,Au 35 (.mn [.t 32,.t 34]),Af 36 2 5,Al 37 36,Af 38 2 8,Al 39 38,Au 40 (.mn [.t 37,.t 39]),Au 41 (.build [(.i .i64 0),(.i .i64 0),(.i .i64 0)] [(0,1,(.t 30)),(1,1,(.t 35)),(2,1,(.t 40))]),
 As 3 5 41]) (.reg [Af 42 0 6,Al 43 42,Af 44 0 8,Al 45 44,Au 46 (.mx [.t 43,.t 45]),Af 47 1 6,Al 48 47,Af 49 1 8,Al 50 49,Au 51 (.mx [.t 48,.t 50]),Af 52 2 6,Al 53 52,Af 54 2 8,Al 55 54,Au 56 (.mx [.t 53,.t 55]),Au 57 (.build [(.i .i64 0),(.i .i64 0),(.i .i64 0)] [(0,1,(.t 46)),(1,1,(.t 51)),(2,1,(.t 56))]),As 3 6 57])))) (.reg [Ad 58 22 1,Am 22 58]))))))) (.seq (.drw [Ag 59 3 5,Ag 60 3 6,As 3 2 59,As 3 3 60,Ab 4 true] [[],[],[1],[],[]]) .ret)))))
def L0k.r:List Rr:=[.cell 2 (some 3),.cell 3 (some 3),.tmp 4]
abbrev L0k.n:Nat:=61
def L0t.c (L0s:FuncId):C :=(.seq (.reg [Au 2 (.box (.t 0)),Au 3 (.box (.t 1)),Au 4 (.alloc [.nil,.nil]),Ac 5 0]) (.seq (.seq (.reg [Ag 10 2 2,Au 11 (.call L0s [.t 10]),Ak .neq 12 11 0,Am 13 12,Aw 14 13 (.ld (some 2) (.t 3)),Aw 15 13 (.call L0s [.t 14]),Aw 16 13 (.bin .neq (.t 15) (.c (.i .i64 0))),Ao 17 13 16]) (.ite (.t 17) (.seq (.reg [Au 18 (.build [.nil,.nil] []),As 2 4 18,Ac 5 1]) .ret) .skip)) (.seq (.seq (.reg [Af 19 0 2,Al 20 19,An 21 0 20,Af 22 0 3,Al 23 22,An 24 0 23,Aj .add 25 21 24,Ak .gtr 26 25 4096,Am 27 26,Aw 28 27 (.fa 1 (.t 2)),Aw 29 27 (.ld none (.t 28)),Aw 30 27 (.len 0 (.t 29)),
 Aw 31 27 (.fa 1 (.t 3)),Aw 32 27 (.ld none (.t 31)),Aw 33 27 (.len 0 (.t 32)),Aw 34 27 (.bin .add (.t 30) (.t 33)),Aw 35 27 (.bin .gtr (.t 34) (.c (.i .i64 4096))),Ao 36 27 35]) (.ite (.t 36) (.seq (.reg [Au 37 (.build [.nil,.nil] []),As 2 4 37,Ac 5 2]) .ret) .skip)) (.seq (.reg [Af 38 0 2,Al 39 38,An 40 0 39,Am 6 40]) (.seq (.drw [Au 41 (.bso 3 0 [(.i .i64 0),(.i .i64 0),(.i .i64 0)] []),Af 42 0 2,Al 43 42,Au 44 (.app 3 24 (.t 41) (.t 43)),Af 45 0 3,Al 46 45,Au 47 (.app 3 24 (.t 44) (.t 46)),Au 48 (.bso 3 0 [(.i .i64 0),(.i .i64 0),(.i .i64 0)] []),Af 49 1 2,Al 50 49,Au 51 (.app 3 24 (.t 48) (.t 50)),
 Au 52 (.build [.nil,.nil] [(0,1,(.t 47)),(1,1,(.t 51))]),Au 7 (.alloc [.nil,.nil]),As 2 7 52] [[],[],[],[],[3],[3],[],[],[3,6],[3,6],[],[],[],[]]) (.seq (.seq (.reg [Af 53 1 3,Al 54 53,An 55 0 54,Ac 56 0]) (.blk 0 (.loop (.seq (.reg [Aj .lss 57 56 55]) (.seq (.ite (.t 57) .skip (.exit 0)) (.seq (.blk 1 (.seq (.reg [Ai 58 3 54 56,Ag 59 3 58,Au 9 (.alloc [(.i .i64 0),(.i .i64 0),(.i .i64 0)]),As 3 9 59]) (.reg [Af 60 1 7,Al 61 60,Af 62 0 9,Al 63 62,Am 64 6,Aj .add 65 63 64,Af 66 1 9,Al 67 66,Am 68 6,Aj .add 69 67 68,Af 70 2 9,Al 71 70,Am 72 6,Aj .add 73 71 72,Au 74 (.build [(.i .i64 0),(.i .i64 0),(.i .i64 0)] [(0,1,(.t 65)),(1,1,(.t 69)),(2,1,(.t 73))]),
 Au 75 (.bsi 3 1 [(.i .i64 0),(.i .i64 0),(.i .i64 0)] [(0,(.t 74))]),Au 76 (.app 3 24 (.t 61) (.t 75)),Af 77 1 7,As 1 77 76]))) (.reg [Ad 78 56 1,Am 56 78]))))))) (.seq (.reg [Ag 79 2 7,As 2 4 79,Ac 5 0]) .ret)))))))
def L0t.r:List Rr:=[.cell 4 (some 2),.tmp 5]
abbrev L0t.n:Nat:=80
def Mesh.fewR (m:Mesh):Bool:=decide (m.verts.length<=60) && decide (m.tris.length<=60)
def Qnz (P:Program) (f:FuncId):Prop:=∀m:Mesh,CallIs P f [m.enc] (.b m.fewR)
theorem snd_nil:Snd ⟨[],[]⟩:=by
 have hz:(Mesh.mk [] []).check=0:=Mesh.check_zero.2 ⟨by simp,by simp,rfl,rfl⟩
 have hb:(Mesh.mk [] []).border=[]:=(Q51 hz).2 λe=>rfl
 refine⟨hz,by unfold Mesh.closed;rw[hz,hb];rfl,λi j e hi=>by simp at hi,by simp,λsh hs=>?_⟩
 have:=(Jf hz).num
 have hs0:(Mesh.mk [] []).shells=[]:=qm (by simpa using this)
 rw[hs0]at hs;simp at hs
theorem Qbe:K4 ⟨[],[]⟩=0:=snd_iff.2 snd_nil
def Wo (v:List V3):Mesh:=⟨v,[⟨0,1,2⟩]⟩
theorem Q2v {a b c:V3} (h:Yb [a,b,c]=true):(Wo [a,b,c]).check=0 :=
 Mesh.check_zero.2 ⟨by simp[Wo],by simp[Wo],h,rfl⟩
theorem Qmn {a b c:V3} (h:Yb [a,b,c]=true):K4 (Wo [a,b,c])=12:=by
 have hz:=Q2v h
 refine Qmo hz ?_
 cases hc:(Wo [a,b,c]).closed with
 | false=>rfl
 | true =>
   have h2:Clo [⟨0,1,2⟩]:=(W7 hc).2
   exact absurd (h2 ⟨0,1⟩ (by decide)) (by decide)
theorem Qjt:Y2 (Wo [⟨0,0,0⟩,⟨1,0,0⟩,⟨2,0,0⟩])=(⟨[],[]⟩,⟨3,1,0,0,0,0,0⟩,0):=by
 have hz:=Q2v (a:=⟨0,0,0⟩) (b:=⟨1,0,0⟩) (c:=⟨2,0,0⟩) (by decide)
 have hw:Wld (Wo [⟨0,0,0⟩,⟨1,0,0⟩,⟨2,0,0⟩]):=⟨by simp[Wo,V3.lt],by simp[Wo,Mesh.cor,Mesh.v]⟩
 have h1:=hw.weld hz
 have h2:Qe (Wo [⟨0,0,0⟩,⟨1,0,0⟩,⟨2,0,0⟩])=(⟨[⟨0,0,0⟩,⟨1,0,0⟩,⟨2,0,0⟩],[]⟩,1,0,0):=by
  unfold Qe
  rw[if_pos hz]
  have hc:Qr (Wo [⟨0,0,0⟩,⟨1,0,0⟩,⟨2,0,0⟩]).deg (Wo [⟨0,0,0⟩,⟨1,0,0⟩,⟨2,0,0⟩]).tris=⟨[],1,0⟩:=by
   have h:=U8 (Wo [⟨0,0,0⟩,⟨1,0,0⟩,⟨2,0,0⟩]).deg [] ⟨0,1,2⟩
   have hd:(Wo [⟨0,0,0⟩,⟨1,0,0⟩,⟨2,0,0⟩]).deg ⟨0,1,2⟩=true:=by decide
   exact h.trans (by unfold Cl.step;rw[hd];rfl)
  unfold Mesh.cleanM
  rw[hc];rfl
 have hz2:(Mesh.mk [⟨0,0,0⟩,⟨1,0,0⟩,⟨2,0,0⟩] []).check=0:=Mesh.check_zero.2 ⟨by simp,by simp,by decide,rfl⟩
 have h3:Qb (Mesh.mk [⟨0,0,0⟩,⟨1,0,0⟩,⟨2,0,0⟩] [])=(⟨[],[]⟩,3,0):=by
  unfold Qb Mesh.weldM
  rw[if_pos hz2]
  have hv:(Mesh.mk [⟨0,0,0⟩,⟨1,0,0⟩,⟨2,0,0⟩] []).wverts=[]:=by
   refine List.eq_nil_iff_forall_not_mem.2 λv hv=>?_
   obtain⟨t,ht,_⟩:=mem_wverts.1 hv
   simp at ht
  rw[hv];rfl
 unfold Y2
 simp only[h1,h2,h3,snd_nil.orient,snd_nil.fill,snd_nil.outw,Qbe,ne_eq,not_true_eq_false,if_false]
 have:=(Jf snd_nil.z).num
 have hs0:(Mesh.mk [] []).shells=[]:=qm (by simpa using this)
 rw[hs0];rfl
def V.sca1:V->Bool
 | .nil | .l _ []=>true
 | v=>v.scal1
def V.sca:V->Bool
 | .t vs=>vs.all fun | .a cs=>cs.all V.sca1 | v=>v.scal1
 | _=>false
theorem sca1_ok {J J':Nat->Prop} {m m':List Ent} {w w':World} {v:V} {c:Value} (hs:v.sca1=true) (h:RC J m w v c):RC J' m' w' v c:=by
 by_cases h1:v.scal1=true
 ·exact Iz h1 h
 ·cases v
  case nil =>
   have h:RD J w .nil c:=h
   cases h with
   | nil0=>exact Qo .nil0
   | nil1 a=>exact Qo (.nil1 a)
  case l sz els =>
   cases els with
   | nil =>
     have h:RD J w (.l sz []) c:=h
     have:RD J' w' (.l sz []) c:=by
      cases h with
      | l0 _=>exact .l0 sz
      | l1 _ a cap=>exact .l1 sz a cap
      | l _ _ a cap cs hj hc hsz hcell hr=>exact .l1 sz a cap
     exact Qo this
   | cons a b=>simp[V.sca1,V.scal1]at hs
  all_goals exact absurd hs h1
theorem sca_ok {J J':Nat->Prop} {m m':List Ent} {w w':World} {v:V} {c:Value} (hs:v.sca=true) (h:RV J m w v c):RV J' m' w' v c:=by
 cases v
 case t vs =>
  obtain⟨arr,rfl,hp⟩:=h
  refine⟨arr,rfl,hp.1,λi v c hv hc=>?_⟩
  have h1:=qj.1 hs v (qb hv)
  have h2:=hp.2 i v c hv hc
  cases v
  case a cs =>
   obtain⟨arr,rfl,hq⟩:=h2
   exact⟨arr,rfl,hq.1,λi v c hv hc=>sca1_ok (qj.1 h1 v (qb hv)) (hq.2 i v c hv hc)⟩
  all_goals first
   | (simp[V.scal1]at h1;done)
   | exact Qs (Iz (J:=J) (m:=m) (w:=w) h1 h2)
 all_goals simp[V.sca]at hs
theorem Qbt {P:Program} {f:FuncId} {vs us:List V} {h:List O} {r0:V} {k:V->List O->Prop} (hu:Yr h us=some vs) (hp:CallIs P f vs r0) (hsc:r0.sca=true) (hk:k r0 h):ACall P f us h k:=by
 intro J m w cargs hr hpw
 have hpw0:Pw (RV (λk=>J k∨Kd m k) [] w) vs cargs:=Bj (R:=RV J m w) (R':=RV (λk=>J k∨Kd m k) [] w) (λv r c q1 q2=>Qy (Q8b hr q1 q2)) hu hpw
 refine (hp [] (λk=>J k∨Kd m k) [] w cargs ⟨rfl,λk hk=>?_,by simp,by simp,by simp⟩ hpw0).mono ?_
 ·rcases hk with hk | ⟨id,e,h1,h2⟩
  ·exact hr.jlt k hk
  ·exact(hr.dis id e k h1 h2).2
 rintro e w' ⟨v,r,h',J',m',rfl,⟨rfl,rfl⟩,hv,hrs,hev,_⟩
 have hkeep:∀k,k<w.heap.size->w'.heap[k]?=w.heap[k]?:=λk hk=>(hev 0).keep k hk (by simp)
 exact⟨v,r,h,J,m,rfl,hk,sca_ok hsc hv,RS.same hr (λ_ h=>h) (λ_ h=>.inl h) (λk hk=>Nat.lt_of_lt_of_le (hr.jlt k hk) (hev 0).size) hkeep (hev 0).size,
  λn=>Ev.same (λ_ h=>h) (λ_ h=>.inl h) hkeep (hev 0).size (hev 0).os (hev 0).tape (hev 0).output (hev 0).drawn,Ml.refl m⟩
section
variable {P:Program} (hm:P.follows .mixedOrders=true)
include hm
theorem Q83 {f:FuncId} (hf:Qc P f L07.c L07.r L07.n):Qnz P f:=by
 intro m
 refine PureC.is (Q9 hm hf (qh rfl) ?_) rfl
 unfold L07.c Mesh.fewR
 by_cases h1:m.verts.length<=60
 ·by_cases h2:m.tris.length<=60
  ·simp[go_sem,Mesh.enc,Mesh.cs,vsV,tsV,h1,h2,L07.r,show (m.verts.length:Int)<=60 by omega,show (m.tris.length:Int)<=60 by omega]
  ·simp[go_sem,Mesh.enc,Mesh.cs,vsV,tsV,h1,h2,L07.r,show (m.verts.length:Int)<=60 by omega,show ¬ (m.tris.length:Int)<=60 by omega]
 ·simp[go_sem,Mesh.enc,Mesh.cs,vsV,tsV,h1,L07.r,show ¬ (m.verts.length:Int)<=60 by omega]
theorem Q49 {f fr fc:FuncId} (hf:Qc P f (L08.c fr fc) L08.r L08.n) (hr:RepC P fr) (hc:ChkC P fc):Qef P f:=by
 have r1:=hr (Wo [⟨0,0,0⟩,⟨1,0,0⟩,⟨2,0,0⟩])
 rw[Qjt]at r1
 have c1:=hc ⟨[],[]⟩
 rw[Qbe]at c1
 have c2:=hc (Wo [⟨0,0,0⟩,⟨1,0,0⟩,⟨0,1,0⟩])
 rw[Qmn (by decide)]at c2
 have c1':CallIs P fc [.a [.nil,.nil]] (.i .i64 0):=c1.le ⟨.inl (.inr ⟨_,_,rfl,rfl,Le0.nil 3,Le0.nil 3,trivial⟩),trivial⟩ (Le.refl _)
 refine PureC.is (Q9 hm hf (qh rfl) ?_) rfl
 unfold L08.c
 simp[Wo,Mesh.enc,Mesh.cs,vsV,tsV,V3.cs,T3.cs]at r1 c2
 simp[go_sem]
 refine Qbt (vs:=[_]) ?_ r1 rfl ?_
 ·simp[go_sem,Yr,frz,Jc]
 simp[go_sem,Q7h,Mesh.enc,Mesh.cs,vsV,tsV,Rep.cs]
 refine Q6 c1' ?_
 simp[go_sem]
 refine Kq (vs:=[_]) ?_ c2 ?_
 ·simp[go_sem,Yr,frz,Jc]
 simp[go_sem,L08.r]
end
def mxP (p:P2):Int:=max (max p.x (-p.x)) (max p.y (-p.y))
def dT (k:Int) (p:P2):Nat:=((mxP p+k-1) / k).toNat
end Go.Abs
