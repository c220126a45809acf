/- Part of the library on which the proof stands: an abstract machine, its values and its soundness against the model; or what functions of the program do to such values. -/
import Derived.Test.YtcdjgldeiaiaoaaGreatGoRpE
import Derived.Test.YtcdjgldeiaiaoaaGreatGoClone
import Derived.Test.YtcdjgldeiaiaoaaGreatGoRb
import Derived.Test.YtcdjgldeiaiaoaaGreatGoTr
import Derived.Test.YtcdjgldeiaiaoaaGreatGoWeA
set_option linter.unusedVariables false
set_option linter.unusedSimpArgs false
namespace Go.Abs
noncomputable def Uy:Nat->Mesh->Rep->Mesh × Rep × Int
 | 0=>λm r=>((Qb m).1,{ r with me:=r.me+(Qb m).2.1 },(Qb m).2.2)
 | 1=>λm r=>((Qg m).1,{ r with de:=(Qg m).2.1,du:=(Qg m).2.2.1 },(Qg m).2.2.2)
 | 2=>λm r=>((Qb m).1,{ r with me:=r.me+(Qb m).2.1 },(Qb m).2.2)
 | 3=>λm r=>((Zp m).1,{ r with fl:=(Zp m).2.1 },(Zp m).2.2)
 | 4=>λm r=>((Qu m).1,{ r with ho:=(Qu m).2.1 },(Qu m).2.2)
 | 5=>λm r=>((Zs m).1,{ r with iv:=(Zs m).2.1 },(Zs m).2.2)
 | _=>λm r=>(m,{ r with sh:=(m.shells.length:Int) },Ky m)
noncomputable def Qj (m:Mesh):Nat->Mesh × Rep
 | 0=>(m,Rep.zero)
 | k+1=>((Uy k (Qj m k).1 (Qj m k).2).1,(Uy k (Qj m k).1 (Qj m k).2).2.1)
noncomputable def J9 (m:Mesh) (k:Nat):Int:=(Uy k (Qj m k).1 (Qj m k).2).2.2
theorem jobG_me (k:Nat) (m:Mesh) (r:Rep):(Uy k m r).2.1.me=r.me∨(Uy k m r).2.1.me=r.me+(Qb m).2.1:=by
 match k with
 | 0=>exact .inr rfl
 | 1=>exact .inl rfl
 | 2=>exact .inr rfl
 | 3=>exact .inl rfl
 | 4=>exact .inl rfl
 | 5=>exact .inl rfl
 | k+6=>exact .inl rfl
theorem Zb (m:Mesh) (k:Nat):Qj m (k+1)=((Uy k (Qj m k).1 (Qj m k).2).1,(Uy k (Qj m k).1 (Qj m k).2).2.1):=rfl
theorem jobS_me (m:Mesh):∀k:Nat,0<=(Qj m k).2.me/\(Qj m k).2.me<=4096*k
 | 0=>by simp[Qj,Rep.zero]
 | k+1=>by
   have ih:=jobS_me m k
   have hw:=Ei (Qj m k).1
   have hg:=jobG_me k (Qj m k).1 (Qj m k).2
   rw[Zb]
   simp only[]
   omega
theorem U2 (m:Mesh) (k:Nat):J9 m k=(Uy k (Qj m k).1 (Qj m k).2).2.2:=rfl
theorem jM0 (m:Mesh):(Qj m 0).1=m:=rfl
theorem jM1 (m:Mesh):(Qj m 1).1=(Qb m).1:=by
 have h:(Qj m (0+1)).1=(Qb (Qj m 0).1).1:=by
  rw[Zb];generalize Qj m 0=s;rfl
 rw[show 1=0+1 from rfl,h,jM0]
theorem jM2 (m:Mesh):(Qj m 2).1=(Qg (Qb m).1).1:=by
 have h:(Qj m (1+1)).1=(Qg (Qj m 1).1).1:=by
  rw[Zb];generalize Qj m 1=s;rfl
 rw[show 2=1+1 from rfl,h,jM1]
theorem jM3 (m:Mesh):(Qj m 3).1=(Qb (Qg (Qb m).1).1).1:=by
 have h:(Qj m (2+1)).1=(Qb (Qj m 2).1).1:=by
  rw[Zb];generalize Qj m 2=s;rfl
 rw[show 3=2+1 from rfl,h,jM2]
theorem jM4 (m:Mesh):(Qj m 4).1=(Zp (Qb (Qg (Qb m).1).1).1).1:=by
 have h:(Qj m (3+1)).1=(Zp (Qj m 3).1).1:=by
  rw[Zb];generalize Qj m 3=s;rfl
 rw[show 4=3+1 from rfl,h,jM3]
theorem jM5 (m:Mesh):(Qj m 5).1=(Qu (Zp (Qb (Qg (Qb m).1).1).1).1).1:=by
 have h:(Qj m (4+1)).1=(Qu (Qj m 4).1).1:=by
  rw[Zb];generalize Qj m 4=s;rfl
 rw[show 5=4+1 from rfl,h,jM4]
theorem jM6 (m:Mesh):(Qj m 6).1=(Zs (Qu (Zp (Qb (Qg (Qb m).1).1).1).1).1).1:=by
 have h:(Qj m (5+1)).1=(Zs (Qj m 5).1).1:=by
  rw[Zb];generalize Qj m 5=s;rfl
 rw[show 6=5+1 from rfl,h,jM5]
theorem jM7 (m:Mesh):(Qj m 7).1=(Zs (Qu (Zp (Qb (Qg (Qb m).1).1).1).1).1).1:=by
 have h:(Qj m (6+1)).1=(Qj m 6).1:=by
  rw[Zb];generalize Qj m 6=s;rfl
 rw[show 7=6+1 from rfl,h,jM6]
theorem jE0 (m:Mesh):J9 m 0=(Qb m).2.2:=by
 have h:J9 m 0=(Qb (Qj m 0).1).2.2:=by
  rw[U2];generalize Qj m 0=s;rfl
 rw[h,jM0]
theorem jE1 (m:Mesh):J9 m 1=(Qg (Qb m).1).2.2.2:=by
 have h:J9 m 1=(Qg (Qj m 1).1).2.2.2:=by
  rw[U2];generalize Qj m 1=s;rfl
 rw[h,jM1]
theorem jE2 (m:Mesh):J9 m 2=(Qb (Qg (Qb m).1).1).2.2:=by
 have h:J9 m 2=(Qb (Qj m 2).1).2.2:=by
  rw[U2];generalize Qj m 2=s;rfl
 rw[h,jM2]
theorem jE3 (m:Mesh):J9 m 3=(Zp (Qb (Qg (Qb m).1).1).1).2.2:=by
 have h:J9 m 3=(Zp (Qj m 3).1).2.2:=by
  rw[U2];generalize Qj m 3=s;rfl
 rw[h,jM3]
theorem jE4 (m:Mesh):J9 m 4=(Qu (Zp (Qb (Qg (Qb m).1).1).1).1).2.2:=by
 have h:J9 m 4=(Qu (Qj m 4).1).2.2:=by
  rw[U2];generalize Qj m 4=s;rfl
 rw[h,jM4]
theorem jE5 (m:Mesh):J9 m 5=(Zs (Qu (Zp (Qb (Qg (Qb m).1).1).1).1).1).2.2:=by
 have h:J9 m 5=(Zs (Qj m 5).1).2.2:=by
  rw[U2];generalize Qj m 5=s;rfl
 rw[h,jM5]
theorem jE6 (m:Mesh):J9 m 6=Ky (Zs (Qu (Zp (Qb (Qg (Qb m).1).1).1).1).1).1:=by
 have h:J9 m 6=Ky (Qj m 6).1:=by
  rw[U2];generalize Qj m 6=s;rfl
 rw[h,jM6]
theorem jR0 (m:Mesh):(Qj m 0).2=Rep.zero:=rfl
theorem jR1 (m:Mesh):(Qj m 1).2=⟨0+(Qb m).2.1,0,0,0,0,0,0⟩:=by
 have h:(Qj m (0+1)).2={ (Qj m 0).2 with me:=(Qj m 0).2.me+(Qb (Qj m 0).1).2.1 }:=by
  rw[Zb];generalize Qj m 0=s;rfl
 rw[show 1=0+1 from rfl,h,jM0,jR0];rfl
theorem jR2 (m:Mesh):(Qj m 2).2=⟨0+(Qb m).2.1,(Qg (Qb m).1).2.1,(Qg (Qb m).1).2.2.1,0,0,0,0⟩:=by
 have h:(Qj m (1+1)).2={ (Qj m 1).2 with de:=(Qg (Qj m 1).1).2.1,du:=(Qg (Qj m 1).1).2.2.1 }:=by
  rw[Zb];generalize Qj m 1=s;rfl
 rw[show 2=1+1 from rfl,h,jM1,jR1]
theorem jR3 (m:Mesh):(Qj m 3).2=⟨0+(Qb m).2.1+(Qb (Qg (Qb m).1).1).2.1,(Qg (Qb m).1).2.1,(Qg (Qb m).1).2.2.1,0,0,0,0⟩:=by
 have h:(Qj m (2+1)).2={ (Qj m 2).2 with me:=(Qj m 2).2.me+(Qb (Qj m 2).1).2.1 }:=by
  rw[Zb];generalize Qj m 2=s;rfl
 rw[show 3=2+1 from rfl,h,jM2,jR2]
theorem jR4 (m:Mesh):(Qj m 4).2=⟨0+(Qb m).2.1+(Qb (Qg (Qb m).1).1).2.1,(Qg (Qb m).1).2.1,(Qg (Qb m).1).2.2.1,(Zp (Qb (Qg (Qb m).1).1).1).2.1,0,0,0⟩:=by
 have h:(Qj m (3+1)).2={ (Qj m 3).2 with fl:=(Zp (Qj m 3).1).2.1 }:=by
  rw[Zb];generalize Qj m 3=s;rfl
 rw[show 4=3+1 from rfl,h,jM3,jR3]
theorem jR5 (m:Mesh):(Qj m 5).2=⟨0+(Qb m).2.1+(Qb (Qg (Qb m).1).1).2.1,(Qg (Qb m).1).2.1,(Qg (Qb m).1).2.2.1,(Zp (Qb (Qg (Qb m).1).1).1).2.1,(Qu (Zp (Qb (Qg (Qb m).1).1).1).1).2.1,0,0⟩:=by
 have h:(Qj m (4+1)).2={ (Qj m 4).2 with ho:=(Qu (Qj m 4).1).2.1 }:=by
  rw[Zb];generalize Qj m 4=s;rfl
 rw[show 5=4+1 from rfl,h,jM4,jR4]
theorem jR6 (m:Mesh):(Qj m 6).2=⟨0+(Qb m).2.1+(Qb (Qg (Qb m).1).1).2.1,(Qg (Qb m).1).2.1,(Qg (Qb m).1).2.2.1,(Zp (Qb (Qg (Qb m).1).1).1).2.1,(Qu (Zp (Qb (Qg (Qb m).1).1).1).1).2.1,(Zs (Qu (Zp (Qb (Qg (Qb m).1).1).1).1).1).2.1,0⟩:=by
 have h:(Qj m (5+1)).2={ (Qj m 5).2 with iv:=(Zs (Qj m 5).1).2.1 }:=by
  rw[Zb];generalize Qj m 5=s;rfl
 rw[show 6=5+1 from rfl,h,jM5,jR5]
theorem jR7 (m:Mesh):(Qj m 7).2=⟨0+(Qb m).2.1+(Qb (Qg (Qb m).1).1).2.1,(Qg (Qb m).1).2.1,(Qg (Qb m).1).2.2.1,(Zp (Qb (Qg (Qb m).1).1).1).2.1,(Qu (Zp (Qb (Qg (Qb m).1).1).1).1).2.1,(Zs (Qu (Zp (Qb (Qg (Qb m).1).1).1).1).1).2.1,((Zs (Qu (Zp (Qb (Qg (Qb m).1).1).1).1).1).1.shells.length:Int)⟩:=by
 have h:(Qj m (6+1)).2={ (Qj m 6).2 with sh:=((Qj m 6).1.shells.length:Int) }:=by
  rw[Zb];generalize Qj m 6=s;rfl
 rw[show 7=6+1 from rfl,h,jM6,jR6]
theorem repR_bad {m:Mesh} {j:Nat} (hj:j<7) (h:∀i,i<j->J9 m i=0) (he:J9 m j≠0):J5 m=(Zc,Rep.zero,J9 m j):=by
 unfold J5
 simp only[]
 by_cases g0:J9 m 0=0
 case neg =>
  have:j=0:=Decidable.byContradiction λhh=>g0 (h 0 (by omega))
  subst this;rw[jE0]at g0 ⊢;rw[if_pos g0]
 rw[jE0]at g0;rw[if_neg (by simpa using g0)]
 by_cases g1:J9 m 1=0
 case neg =>
  have:j=1:=by
   have a:¬ j=0:=by rintro rfl;rw[jE0]at he;exact he g0
   exact Decidable.byContradiction λhh=>g1 (h 1 (by omega))
  subst this;rw[jE1]at g1 ⊢;rw[if_pos g1]
 rw[jE1]at g1;rw[if_neg (by simpa using g1)]
 by_cases g2:J9 m 2=0
 case neg =>
  have:j=2:=by
   have a0:¬ j=0:=by rintro rfl;rw[jE0]at he;exact he g0
   have a1:¬ j=1:=by rintro rfl;rw[jE1]at he;exact he g1
   exact Decidable.byContradiction λhh=>g2 (h 2 (by omega))
  subst this;rw[jE2]at g2 ⊢;rw[if_pos g2]
 rw[jE2]at g2;rw[if_neg (by simpa using g2)]
 have a0:¬ j=0:=by rintro rfl;rw[jE0]at he;exact he g0
 have a1:¬ j=1:=by rintro rfl;rw[jE1]at he;exact he g1
 have a2:¬ j=2:=by rintro rfl;rw[jE2]at he;exact he g2
 by_cases g3:J9 m 3=0
 case neg =>
  have:j=3:=Decidable.byContradiction λhh=>g3 (h 3 (by omega))
  subst this;rw[jE3]at g3 ⊢;rw[if_pos g3]
 rw[jE3]at g3;rw[if_neg (by simpa using g3)]
 have a3:¬ j=3:=by rintro rfl;rw[jE3]at he;exact he g3
 by_cases g4:J9 m 4=0
 case neg =>
  have:j=4:=Decidable.byContradiction λhh=>g4 (h 4 (by omega))
  subst this;rw[jE4]at g4 ⊢;rw[if_pos g4]
 rw[jE4]at g4;rw[if_neg (by simpa using g4)]
 have a4:¬ j=4:=by rintro rfl;rw[jE4]at he;exact he g4
 by_cases g5:J9 m 5=0
 case neg =>
  have:j=5:=Decidable.byContradiction λhh=>g5 (h 5 (by omega))
  subst this;rw[jE5]at g5 ⊢;rw[if_pos g5]
 rw[jE5]at g5;rw[if_neg (by simpa using g5)]
 have a5:¬ j=5:=by rintro rfl;rw[jE5]at he;exact he g5
 obtain rfl:j=6:=by omega
 rw[jE6]at he ⊢
 rw[if_pos he]
theorem repR_good {m:Mesh} (g:∀i,i<7->J9 m i=0):J5 m=((Qj m 7).1,(Qj m 7).2,0):=by
 have h0:=g 0 (by omega);have h1:=g 1 (by omega);have h2:=g 2 (by omega);have h3:=g 3 (by omega);have h4:=g 4 (by omega);have h5:=g 5 (by omega);have h6:=g 6 (by omega)
 rw[jE0]at h0;rw[jE1]at h1;rw[jE2]at h2;rw[jE3]at h3;rw[jE4]at h4;rw[jE5]at h5;rw[jE6]at h6
 rw[jM7,jR7]
 unfold J5
 simp only[]
 rw[if_neg (by simpa using h0),if_neg (by simpa using h1),if_neg (by simpa using h2),if_neg (by simpa using h3),if_neg (by simpa using h4),if_neg (by simpa using h5),if_neg (by simpa using h6),Int.zero_add]
def jobF (fw fc fo ff fu fk:FuncId):Nat->FuncId
 | 0=>fw
 | 1=>fc
 | 2=>fw
 | 3=>fo
 | 4=>ff
 | 5=>fu
 | _=>fk
def jobL (fw fc fo ff fu fk:FuncId):List (List V):=[[.f fw []],[.f fc []],[.f fw []],[.f fo []],[.f ff []],[.f fu []],[.f fk []]]
theorem jobL_get (fw fc fo ff fu fk:FuncId) {k:Nat} (h:k<7):(jobL fw fc fo ff fu fk)[k]?=some [.f (jobF fw fc fo ff fu fk k) []]:=by
 match k,h with
 | 0,_=>rfl
 | 1,_=>rfl
 | 2,_=>rfl
 | 3,_=>rfl
 | 4,_=>rfl
 | 5,_=>rfl
 | 6,_=>rfl
def okJ (_:Mesh) (r:Rep):Prop:=0<=r.me/\r.me<=1000000
theorem JobC.ok {P:Program} {f:FuncId} {ok:Mesh->Rep->Prop} {g:Mesh->Rep->Mesh × Rep × Int} (h:JobC P f ok g) (hk:∀m r,okJ m r->ok m r):JobC P f okJ g :=
 λH id m r ho hid=>h H id m r (hk m r ho) hid
noncomputable def repN (p:Mesh × Rep × Int):V:=if p.2.2=0 then repV p else .t [.a [.nil,.nil],.a Rep.zero.cs,.i .i64 p.2.2]
theorem repN_le (m:Mesh):Le (repN (J5 m)) (repV (J5 m)):=by
 rcases repR_cases m with⟨h,h2⟩ | ⟨h,_⟩
 ·unfold repN
  rw[if_neg h]
  have h3:=W0 (J5 m).2.2
  rw[<- h2]at h3
  exact h3
 ·unfold repN
  rw[if_pos h]
  exact Le.refl _
section
variable {P:Program} (hm:P.follows .mixedOrders=true)
include hm
set_option maxRecDepth 20000 in
set_option maxHeartbeats 8000000 in
theorem repair_Repair_ok {f fw fc fo ff fu fk:FuncId} (hf:Q9 P f (repair_Repair.c fw fc fo ff fu fk) repair_Repair.r repair_Repair.n)
  (hj:∀k,k<7->Zq P (jobF fw fc fo ff fu fk k)=true/\JobC P (jobF fw fc fo ff fu fk k) okJ (Uy k)):RepC P f:=by
 intro m
 refine CallIs.res (r:=repN (J5 m)) ?_ (repN_le m)
 refine PureC.is (Q7 hm hf (Nat.le_of_ble_eq_true rfl) ?_) rfl
 unfold repair_Repair.c
 have hget:=λk (h:k<7)=>jobL_get fw fc fo ff fu fk h
 have hL:∀a,a=jobL fw fc fo ff fu fk->a.length=7:=λa h=>by rw[h];rfl
 simp[go_sem,Mesh.enc,Mesh.cs]
 refine Qe (α:=Nat) (λk=>k<=7/\∀i,i<k->J9 m i=0)
  (λk=>⟨[(2,.p 1 1 0 0),(3,.p 2 1 0 0),(6,.p 4 1 0 0),(14,.own 3 1 0 7),(15,.i .i64 7),(16,.i .i64 k)],
   [.arr 1 2 [m.cs],.arr 1 2 [[.nil,.nil]],.arr 1 7 [Rep.zero.cs],.arr 1 1 (jobL fw fc fo ff fu fk),Js (Qj m k).1 (Qj m k).2]⟩)
  (λk=>7-k) 0 ⟨Nat.zero_le _,by simp⟩ ?_ ?_
 ·simp[go_sem,Qj,Js,jobL,Mesh.cs,Rep.cs,Rep.zero,vsV,tsV]
 ·rintro k ⟨hk,hno⟩
  by_cases hkl:k=7
  ·subst hkl
   rw[repR_good hno]
   simp[go_sem,Js,repair_Repair.r,repN,repV,Mesh.cs,Rep.cs,Mesh.enc,vsV,tsV,Y7,Zw]
  ·have hlt:k<7:=by omega
   obtain⟨hcal,hjob⟩:=hj k hlt
   have hg:=hget k hlt
   have hme:=jobS_me m k
   have hlt7:(k:Int)<7:=by omega
   have hlen:(jobL fw fc fo ff fu fk).length=7:=rfl
   generalize hjl:jobL fw fc fo ff fu fk=JL at *
   obtain⟨_,hg'⟩:=List.getElem?_eq_some_iff.1 hg
   simp[go_sem,hlt,hlt7,hg,hg']
   refine⟨hcal,(hjob [.arr 1 2 [m.cs],.arr 1 2 [[.nil,.nil]],.arr 1 7 [Rep.zero.cs],.arr 1 1 JL,Js (Qj m k).1 (Qj m k).2] 4 _ _ ⟨hme.1,by omega⟩ rfl).mono ?_⟩
   rintro r h' ⟨rfl,rfl⟩
   by_cases he:J9 m k=0
   ·simp[go_sem,show (Uy k (Qj m k).1 (Qj m k).2).2.2=0 from he,hlt,Q0]
    refine⟨k+1,⟨by omega,λi hi=>?_⟩,by omega,by rw[Q0 (by omega) (by omega)];omega,λx hx=>?_,λx hx=>?_,λel hel x hx=>?_,.inr ⟨by rw[Zb],jobO_cl _ _ 5⟩⟩
    ·by_cases hik:i=k
     ·subst hik;exact he
     ·exact hno i (by omega)
    ·simp[Mesh.cs]at hx
     rcases hx with rfl | rfl<;>rfl
    ·simp[Rep.cs,Rep.zero]at hx
     subst hx;rfl
    ·rw[<- hjl]at hel
     simp[jobL]at hel
     rcases hel with rfl | rfl | rfl | rfl | rfl | rfl | rfl<;>(simp at hx;subst hx;rfl)
   ·rw[repR_bad hlt hno he]
    simp[go_sem,show ¬ (Uy k (Qj m k).1 (Qj m k).2).2.2=0 from he,repair_Repair.r,repN,Rep.zero,Rep.cs]
    rw[if_neg he];rfl
end
end Go.Abs
set_option linter.unusedVariables false
set_option linter.unusedSimpArgs false
namespace Go.Abs
def Mesh.fewR (m:Mesh):Bool:=decide (m.verts.length<=60) && decide (m.tris.length<=60)
def FewRC (P:Program) (f:FuncId):Prop:=∀m:Mesh,CallIs P f [m.enc] (.b m.fewR)
theorem repR_len (m:Mesh):(J5 m).1.verts.length<=1000000/\(J5 m).1.tris.length<=1000000:=by
 rcases repR_cases m with⟨h,h2⟩ | ⟨h,hw,hs,_⟩
 ·rw[h2];simp[Zc]
 ·obtain⟨z1,z2,_⟩:=Mesh.check_zero.1 hs.z
  omega
theorem snd_nil:Snd ⟨[],[]⟩:=by
 have hz:(Mesh.mk [] []).check=0:=Mesh.check_zero.2 ⟨by simp,by simp,rfl,rfl⟩
 have hb:(Mesh.mk [] []).border=[]:=(border_nil hz).2 λe=>rfl
 refine⟨hz,by unfold Mesh.closed;rw[hz,hb];rfl,λi j e hi=>by simp at hi,by simp,λsh hs=>?_⟩
 have:=(J3 hz).num
 have hs0:(Mesh.mk [] []).shells=[]:=List.eq_nil_of_length_eq_zero (by simpa using this)
 rw[hs0]at hs;simp at hs
theorem chkR_nil:Ky ⟨[],[]⟩=0:=snd_iff.2 snd_nil
def Uk (v:List V3):Mesh:=⟨v,[⟨0,1,2⟩]⟩
theorem tri1_check {a b c:V3} (h:Bh [a,b,c]=true):(Uk [a,b,c]).check=0 :=
 Mesh.check_zero.2 ⟨by simp[Uk],by simp[Uk],h,rfl⟩
theorem chk_open {a b c:V3} (h:Bh [a,b,c]=true):Ky (Uk [a,b,c])=12:=by
 have hz:=tri1_check h
 refine chkR_2 hz ?_
 cases hc:(Uk [a,b,c]).closed with
 | false=>rfl
 | true =>
   have h2:Clo [⟨0,1,2⟩]:=(closed_clo hc).2
   exact absurd (h2 ⟨0,1⟩ (by decide)) (by decide)
theorem rep_flat:J5 (Uk [⟨0,0,0⟩,⟨1,0,0⟩,⟨2,0,0⟩])=(⟨[],[]⟩,⟨3,1,0,0,0,0,0⟩,0):=by
 have hz:=tri1_check (a:=⟨0,0,0⟩) (b:=⟨1,0,0⟩) (c:=⟨2,0,0⟩) (by decide)
 have hw:Wld (Uk [⟨0,0,0⟩,⟨1,0,0⟩,⟨2,0,0⟩]):=⟨by simp[Uk,V3.lt],by simp[Uk,Mesh.cor,Mesh.v]⟩
 have h1:=hw.weld hz
 have h2:Qg (Uk [⟨0,0,0⟩,⟨1,0,0⟩,⟨2,0,0⟩])=(⟨[⟨0,0,0⟩,⟨1,0,0⟩,⟨2,0,0⟩],[]⟩,1,0,0):=by
  unfold Qg
  rw[if_pos hz]
  have hc:Z0 (Uk [⟨0,0,0⟩,⟨1,0,0⟩,⟨2,0,0⟩]).deg (Uk [⟨0,0,0⟩,⟨1,0,0⟩,⟨2,0,0⟩]).tris=⟨[],1,0⟩:=by
   have h:=Eb (Uk [⟨0,0,0⟩,⟨1,0,0⟩,⟨2,0,0⟩]).deg [] ⟨0,1,2⟩
   have hd:(Uk [⟨0,0,0⟩,⟨1,0,0⟩,⟨2,0,0⟩]).deg ⟨0,1,2⟩=true:=by decide
   exact h.trans (by unfold Cl.step;rw[hd];rfl)
  unfold Mesh.cleanM
  rw[hc];rfl
 have hz2:(Mesh.mk [⟨0,0,0⟩,⟨1,0,0⟩,⟨2,0,0⟩] []).check=0:=Mesh.check_zero.2 ⟨by simp,by simp,by decide,rfl⟩
 have h3:Qb (Mesh.mk [⟨0,0,0⟩,⟨1,0,0⟩,⟨2,0,0⟩] [])=(⟨[],[]⟩,3,0):=by
  unfold Qb Mesh.weldM
  rw[if_pos hz2]
  have hv:(Mesh.mk [⟨0,0,0⟩,⟨1,0,0⟩,⟨2,0,0⟩] []).wverts=[]:=by
   refine List.eq_nil_iff_forall_not_mem.2 λv hv=>?_
   obtain⟨t,ht,_⟩:=mem_wverts.1 hv
   simp at ht
  rw[hv];rfl
 unfold J5
 simp only[h1,h2,h3,snd_nil.orient,snd_nil.fill,snd_nil.outw,chkR_nil,ne_eq,not_true_eq_false,if_false]
 have:=(J3 snd_nil.z).num
 have hs0:(Mesh.mk [] []).shells=[]:=List.eq_nil_of_length_eq_zero (by simpa using this)
 rw[hs0];rfl
def V.sca1:V->Bool
 | .nil | .l _ []=>true
 | v=>v.scal1
def V.sca:V->Bool
 | .t vs=>vs.all fun | .a cs=>cs.all V.sca1 | v=>v.scal1
 | _=>false
theorem sca1_ok {J J':Nat->Prop} {m m':List Ent} {w w':World} {v:V} {c:Value} (hs:v.sca1=true) (h:RC J m w v c):RC J' m' w' v c:=by
 by_cases h1:v.scal1=true
 ·exact Bu h1 h
 ·cases v
  case nil =>
   have h:RD J w .nil c:=h
   cases h with
   | nil0=>exact Qn .nil0
   | nil1 a=>exact Qn (.nil1 a)
  case l sz els =>
   cases els with
   | nil =>
     have h:RD J w (.l sz []) c:=h
     have:RD J' w' (.l sz []) c:=by
      cases h with
      | l0 _=>exact .l0 sz
      | l1 _ a cap=>exact .l1 sz a cap
      | l _ _ a cap cs hj hc hsz hcell hr=>exact .l1 sz a cap
     exact Qn this
   | cons a b=>simp[V.sca1,V.scal1]at hs
  all_goals exact absurd hs h1
theorem sca_ok {J J':Nat->Prop} {m m':List Ent} {w w':World} {v:V} {c:Value} (hs:v.sca=true) (h:RV J m w v c):RV J' m' w' v c:=by
 cases v
 case t vs =>
  obtain⟨arr,rfl,hp⟩:=h
  refine⟨arr,rfl,hp.1,λi v c hv hc=>?_⟩
  have h1:=List.all_eq_true.1 hs v (List.mem_of_getElem? hv)
  have h2:=hp.2 i v c hv hc
  cases v
  case a cs =>
   obtain⟨arr,rfl,hq⟩:=h2
   exact⟨arr,rfl,hq.1,λi v c hv hc=>sca1_ok (List.all_eq_true.1 h1 v (List.mem_of_getElem? hv)) (hq.2 i v c hv hc)⟩
  all_goals first
   | (simp[V.scal1]at h1;done)
   | exact Qr (Bu (J:=J) (m:=m) (w:=w) h1 h2)
 all_goals simp[V.sca]at hs
theorem ACall_lends {P:Program} {f:FuncId} {vs us:List V} {h:List O} {r0:V} {k:V->List O->Prop} (hu:Zu h us=some vs) (hp:CallIs P f vs r0) (hsc:r0.sca=true) (hk:k r0 h):ACall P f us h k:=by
 intro J m w cargs hr hpw
 have hpw0:Pw (RV (λk=>J k∨Jw m k) [] w) vs cargs:=Em (R:=RV J m w) (R':=RV (λk=>J k∨Jw m k) [] w) (λv r c q1 q2=>Qx (frz_ok hr q1 q2)) hu hpw
 refine (hp [] (λk=>J k∨Jw m k) [] w cargs ⟨rfl,λk hk=>?_,by simp,by simp,by simp⟩ hpw0).mono ?_
 ·rcases hk with hk | ⟨id,e,h1,h2⟩
  ·exact hr.jlt k hk
  ·exact(hr.dis id e k h1 h2).2
 rintro e w' ⟨v,r,h',J',m',rfl,⟨rfl,rfl⟩,hv,hrs,hev,_⟩
 have hkeep:∀k,k<w.heap.size->w'.heap[k]?=w.heap[k]?:=λk hk=>(hev 0).keep k hk (by simp)
 exact⟨v,r,h,J,m,rfl,hk,sca_ok hsc hv,RS.same hr (λ_ h=>h) (λ_ h=>.inl h) (λk hk=>Nat.lt_of_lt_of_le (hr.jlt k hk) (hev 0).size) hkeep (hev 0).size,
  λn=>Ev.same (λ_ h=>h) (λ_ h=>.inl h) hkeep (hev 0).size (hev 0).os (hev 0).tape (hev 0).output (hev 0).drawn,Ml.refl m⟩
section
variable {P:Program} (hm:P.follows .mixedOrders=true)
include hm
theorem law14_few_ok {f:FuncId} (hf:Q9 P f law14_few.c law14_few.r law14_few.n):FewRC P f:=by
 intro m
 refine PureC.is (Q7 hm hf (Nat.le_of_ble_eq_true rfl) ?_) rfl
 unfold law14_few.c Mesh.fewR
 by_cases h1:m.verts.length<=60
 ·by_cases h2:m.tris.length<=60
  ·simp[go_sem,Mesh.enc,Mesh.cs,vsV,tsV,h1,h2,law14_few.r,show (m.verts.length:Int)<=60 by omega,show (m.tris.length:Int)<=60 by omega]
  ·simp[go_sem,Mesh.enc,Mesh.cs,vsV,tsV,h1,h2,law14_few.r,show (m.verts.length:Int)<=60 by omega,show ¬ (m.tris.length:Int)<=60 by omega]
 ·simp[go_sem,Mesh.enc,Mesh.cs,vsV,tsV,h1,law14_few.r,show ¬ (m.verts.length:Int)<=60 by omega]
set_option maxRecDepth 20000 in
set_option maxHeartbeats 4000000 in
theorem law14_works_ok {f fr fc:FuncId} (hf:Q9 P f (law14_works.c fr fc) law14_works.r law14_works.n) (hr:RepC P fr) (hc:ChkC P fc):AwakeC P f:=by
 have r1:=hr (Uk [⟨0,0,0⟩,⟨1,0,0⟩,⟨2,0,0⟩])
 rw[rep_flat]at r1
 have c1:=hc ⟨[],[]⟩
 rw[chkR_nil]at c1
 have c2:=hc (Uk [⟨0,0,0⟩,⟨1,0,0⟩,⟨0,1,0⟩])
 rw[chk_open (by decide)]at c2
 have c1':CallIs P fc [.a [.nil,.nil]] (.i .i64 0):=c1.le ⟨.inl (.inr ⟨_,_,rfl,rfl,Le0.nil 3,Le0.nil 3,trivial⟩),trivial⟩ (Le.refl _)
 refine PureC.is (Q7 hm hf (Nat.le_of_ble_eq_true rfl) ?_) rfl
 unfold law14_works.c
 simp[Uk,Mesh.enc,Mesh.cs,vsV,tsV,V3.cs,T3.cs]at r1 c2
 simp[go_sem]
 refine ACall_lends (vs:=[_]) ?_ r1 rfl ?_
 ·simp[go_sem,Zu,frz,Xm]
 simp[go_sem,repV,Mesh.enc,Mesh.cs,vsV,tsV,Rep.cs]
 refine Q3 c1' ?_
 simp[go_sem]
 refine Eu (vs:=[_]) ?_ c2 ?_
 ·simp[go_sem,Zu,frz,Xm]
 simp[go_sem,law14_works.r]
set_option maxRecDepth 20000 in
set_option maxHeartbeats 4000000 in
theorem RepairRepairs_ok {f ff fa fc fr fs:FuncId} (hf:Q9 P f (law14_RepairRepairs.c ff fa fc fr fs) law14_RepairRepairs.r law14_RepairRepairs.n) (hff:FewRC P ff) (ha:AwakeC P fa) (hc:RepC P fc) (hr:RepC P fr) (hs:SameMC P fs)
  (m:Mesh):PureC P f [m.enc] (·=.b true):=by
 refine Q7 hm hf (Nat.le_of_ble_eq_true rfl) ?_
 unfold law14_RepairRepairs.c
 have f1:=hff m
 have c1:=hc m
 have c2:=hr m
 have hl:=repR_len m
 have s1:=hs (J5 m).1 hl.1 hl.2
 generalize J5 m=R at *
 obtain⟨a,r,e⟩:=R
 simp only[Mesh.enc,Mesh.cs]at f1 c1 c2 s1
 simp[go_sem,Mesh.enc,Mesh.cs]
 refine Q3 f1 ?_
 cases h:m.fewR
 ·simp[go_sem]
  refine Q3 ha ?_
  simp[go_sem,law14_RepairRepairs.r]
 simp[go_sem]
 refine Q3 c1 ?_
 simp[go_sem,repV,Mesh.enc,Mesh.cs,Rep.cs]
 refine Q3 c2 ?_
 simp[go_sem,repV,Mesh.enc,Mesh.cs,Rep.cs]
 refine Q3 s1 ?_
 simp[go_sem,Rep.cs]
 refine Q3 ha ?_
 simp[go_sem,law14_RepairRepairs.r]
end
end Go.Abs
set_option linter.unusedVariables false
set_option linter.unusedSimpArgs false
namespace Go.Abs
def ref12_Fill.c (ref07_Check ref10_Loops ref12_Fan:FuncId):C :=(.seq (.reg [⟨some 1,none,.box (.t 0)⟩,⟨some 2,none,.alloc [.nil,.nil]⟩,⟨some 3,none,.mv (.c (.i .i64 0))⟩,⟨some 4,none,.mv (.c (.i .i64 0))⟩]) (.seq (.reg [⟨some 9,none,.ld (some 2) (.t 1)⟩,⟨some 10,none,.call ref07_Check [.t 9]⟩,⟨some 5,none,.mv (.t 10)⟩]) (.seq (.seq (.reg [⟨some 11,none,.mv (.t 5)⟩,⟨some 12,none,.bin .neq (.t 11) (.c (.i .i64 0))⟩]) (.ite (.t 12) (.seq (.reg [⟨some 13,none,.build [.nil,.nil] []⟩,⟨some 14,none,.mv (.t 5)⟩,⟨none,none,.st 2 (.t 2) (.t 13)⟩,⟨some 3,none,.mv (.c (.i .i64 0))⟩,⟨some 4,none,.mv (.t 14)⟩])
 .ret) .skip)) (.seq (.reg [⟨some 16,none,.ld (some 2) (.t 1)⟩,⟨some 17,none,.call ref10_Loops [.t 16]⟩,⟨some 15,none,.mv (.t 17)⟩,⟨some 18,none,.ext (.t 15) 0⟩,⟨some 19,none,.ext (.t 15) 1⟩,⟨some 6,none,.mv (.t 18)⟩,⟨some 5,none,.mv (.t 19)⟩]) (.seq (.seq (.reg [⟨some 20,none,.mv (.t 5)⟩,⟨some 21,none,.bin .neq (.t 20) (.c (.i .i64 0))⟩]) (.ite (.t 21) (.seq (.reg [⟨some 22,none,.build [.nil,.nil] []⟩,⟨some 23,none,.mv (.t 5)⟩,⟨none,none,.st 2 (.t 2) (.t 22)⟩,⟨some 3,none,.mv (.c (.i .i64 0))⟩,⟨some 4,none,.mv (.t 23)⟩]) .ret) .skip)) (.seq (.reg [⟨some 24,none,.bso 3 0 [(.i .i64 0),(.i .i64 0),(.i .i64 0)] []⟩,
 ⟨some 25,none,.fa 1 (.t 1)⟩,⟨some 26,none,.ld none (.t 25)⟩,⟨some 27,none,.app 3 24 (.t 24) (.t 26)⟩,⟨some 7,none,.mv (.t 27)⟩]) (.seq (.seq (.reg [⟨some 8,none,.mv (.c (.i .i64 0))⟩]) (.blk 0 (.loop (.seq (.seq (.reg [⟨some 28,none,.mv (.t 8)⟩,⟨some 29,none,.mv (.t 6)⟩,⟨some 30,none,.len 0 (.t 29)⟩,⟨some 31,none,.bin .lss (.t 28) (.t 30)⟩]) (.ite (.t 31) .skip (.exit 0))) (.seq (.blk 1 (.reg [⟨some 34,none,.mv (.t 7)⟩,⟨some 35,none,.mv (.t 6)⟩,⟨some 36,none,.mv (.t 8)⟩,⟨some 37,none,.ia 1 (.t 35) (.t 36)⟩,⟨some 38,none,.ld none (.t 37)⟩,⟨some 39,none,.call ref12_Fan [.t 38]⟩,⟨some 40,none,.app 3 24 (.t 34) (.t 39)⟩,
 ⟨some 7,none,.mv (.t 40)⟩])) (.reg [⟨some 32,none,.mv (.t 8)⟩,⟨some 33,none,.bin .add (.t 32) (.c (.i .i64 1))⟩,⟨some 8,none,.mv (.t 33)⟩])))))) (.seq (.seq (.reg [⟨some 41,none,.mv (.t 7)⟩,⟨some 42,none,.len 0 (.t 41)⟩,⟨some 43,none,.bin .gtr (.t 42) (.c (.i .i64 4096))⟩]) (.ite (.t 43) (.seq (.reg [⟨some 44,none,.build [.nil,.nil] []⟩,⟨none,none,.st 2 (.t 2) (.t 44)⟩,⟨some 3,none,.mv (.c (.i .i64 0))⟩,⟨some 4,none,.mv (.c (.i .i64 2))⟩]) .ret) .skip)) (.seq (.reg [⟨some 45,none,.bso 3 0 [(.i .i64 0),(.i .i64 0),(.i .i64 0)] []⟩,⟨some 46,none,.fa 0 (.t 1)⟩,⟨some 47,none,.ld none (.t 46)⟩,⟨some 48,none,.app 3 24 (.t 45) (.t 47)⟩,
 ⟨some 49,none,.mv (.t 7)⟩,⟨some 50,none,.build [.nil,.nil] [(0,1,(.t 48)),(1,1,(.t 49))]⟩,⟨some 51,none,.mv (.t 6)⟩,⟨some 52,none,.len 0 (.t 51)⟩,⟨none,none,.st 2 (.t 2) (.t 50)⟩,⟨some 3,none,.mv (.t 52)⟩,⟨some 4,none,.mv (.c (.i .i64 0))⟩]) .ret)))))))))
def ref12_Fill.r:List Rr:=[.cell 2 (some 2),.tmp 3,.tmp 4]
abbrev ref12_Fill.n:Nat:=53
end Go.Abs
set_option linter.unusedVariables false
set_option linter.unusedSimpArgs false
namespace Go.Abs
def ExtendC (P:Program) (f:FuncId):Prop:=∀(h:List O) (id id2 g:Nat) (v:V) (ts more:List T3),id≠id2->h[id]?=some (.arr 1 2 [[v,.own id2 g 0 ts.length]])->h[id2]?=some (.arr g 3 (ts.map T3.cs))->ts.length<=4096->more.length<=100000 ->
 ACall P f [.p id 1 0 0,tsV more] h (λr h'=>(4096<ts.length+more.length/\r=.b false/\h'=h) ∨
  (ts.length+more.length<=4096/\r=.b true/\h'=(h.set id2 (.arr (g+1) 3 ((ts++more).map T3.cs))).set id (.arr 1 2 [[v,.own id2 (g+1) 0 (ts++more).length]])))
theorem Wh (e:Int):Le (.t [.a [.nil,.nil],.i .i64 0,.i .i64 e]) (Xo (Zc,0,e)) :=
 .inr ⟨_,_,rfl,rfl,.inr ⟨_,_,rfl,rfl,Le0.nil 3,Le0.nil 3,trivial⟩,Le1.refl _,Le1.refl _,trivial⟩
theorem sum_ge:∀(ls:List (List Int)) (w:List Int),w∈ls->w.length<=(ls.map List.length).sum
 | [],w,hw=>by simp at hw
 | a::l,w,hw=>by
   rw[List.map_cons,List.sum_cons]
   rcases List.mem_cons.1 hw with rfl | hw
   ·omega
   ·have:=sum_ge l w hw;omega
theorem sum_len:∀(ls:List (List Int)),(∀w∈ls,1<=w.length)->ls.length<=(ls.map List.length).sum
 | [],_=>by simp
 | a::l,h=>by
   rw[List.map_cons,List.sum_cons,List.length_cons]
   have:=sum_len l (λw hw=>h w (by simp[hw]))
   have:=h a (by simp)
   omega
def trK (m:Mesh) (ls:List (List Int)) (k:Nat):List T3:=m.tris++(ls.take k).flatMap Yg
theorem loops_each {m:Mesh} (h:m.loops.2=0):∀w∈m.loops.1,w.length<=12288:=by
 intro w hw
 have h1:=loops_sum h
 have h2:=Ks m
 have h3:w.length<=(m.loops.1.map List.length).sum:=by
  exact sum_ge _ w hw
 omega
theorem loops_num {m:Mesh} (h:m.loops.2=0):m.loops.1.length<=12288:=by
 obtain⟨hz,hs,hls⟩:=loops_ok h
 have h1:=loops_sum h
 have h2:=Ks m
 have hL:=loops_are hz hs
 rw[<- hls]at hL
 have:m.loops.1.length<=(m.loops.1.map List.length).sum:=by
  have hne:∀w∈m.loops.1,1<=w.length:=λw hw=>List.length_pos_iff.2 (hL.cyc w hw).1
  exact sum_len _ hne
 omega
theorem fanOf_len (w:List Int):(Yg w).length=w.length-2:=by unfold Yg;exact fanK_len _ _
section
variable {P:Program} (hm:P.follows .mixedOrders=true)
include hm
theorem holes_extend_ok {f:FuncId} (hf:Q9 P f holes_extend.c holes_extend.r holes_extend.n):ExtendC P f:=by
 intro h id id2 g v ts more hne h1 h2 ht hmo
 refine call_keep hm hf (Nat.le_of_ble_eq_true rfl) ?_
 unfold holes_extend.c
 obtain⟨hid2,h2'⟩:=List.getElem?_eq_some_iff.1 h2
 obtain⟨hid,h1'⟩:=List.getElem?_eq_some_iff.1 h1
 have hs1:∀o:O,(h.set id2 o)[id]?=some (.arr 1 2 [[v,.own id2 g 0 ts.length]]):=λo=>by rw[List.getElem?_set_ne (λhh=>hne hh.symm)];exact h1
 have htk:List.take ts.length (ts.map T3.cs)=ts.map T3.cs:=List.take_of_length_le (by simp)
 by_cases hlt:4096<ts.length+more.length
 ·simp (disch:=omega) [go_sem,h1,h1',h2,h2',tsV,Q0,show (4096:Int)<(ts.length:Int)+more.length by omega,holes_extend.r]
  exact hlt
 ·simp (disch:=omega) [go_sem,h1,h1',h2,h2',hs1,htk,tsV,Q0,show ¬ (4096:Int)<(ts.length:Int)+more.length by omega,holes_extend.r]
  exact⟨⟨by omega,by omega⟩,by omega⟩
set_option maxRecDepth 20000 in
set_option maxHeartbeats 4000000 in
theorem holes_Fill_ok {f fc fl fcv fct ff fe:FuncId} (hf:Q9 P f (holes_Fill.c fc fl fcv fct ff fe) holes_Fill.r holes_Fill.n) (hc:Z8 P fc) (hl:LoopsC P fl) (hcv:Kw P fcv 3) (hct:Kw P fct 3) (hff:FanC P ff) (he:ExtendC P fe):FillC P f:=by
 intro m
 by_cases hz:m.check=0
 case neg =>
  have hlp:m.loops=([],m.check):=by simp[Mesh.loops,hz]
  have hR:Qu m=(Zc,0,m.check):=by unfold Qu;rw[hlp,if_neg hz]
  rw[hR]
  refine CallIs.res ?_ (Wh _)
  refine PureC.is (Q7 hm hf (Nat.le_of_ble_eq_true rfl) ?_) rfl
  unfold holes_Fill.c
  simp[go_sem,Mesh.enc,Mesh.cs]
  refine Q3 (hc m) ?_
  simp[go_sem,hz,holes_Fill.r]
 have hl1:=hl m
 by_cases h0:m.loops.2=0
 case neg =>
  have hR:Qu m=(Zc,0,m.loops.2):=by unfold Qu;rw[if_neg h0]
  rw[hR]
  refine CallIs.res ?_ (Wh _)
  refine PureC.is (Q7 hm hf (Nat.le_of_ble_eq_true rfl) ?_) rfl
  unfold holes_Fill.c
  simp[go_sem,Mesh.enc,Mesh.cs]
  refine Q3 (hc m) ?_
  simp[go_sem,hz]
  refine Q3 hl1 ?_
  simp[go_sem,h0,holes_Fill.r]
 obtain⟨z1,z2,z3,z4⟩:=Mesh.check_zero.1 hz
 have hnum:=loops_num h0
 have heach:=loops_each h0
 have hmain:PureC P f [m.enc] (·=if m.fillM.tris.length<=4096 then Xo (m.fillM,m.loops.1.length,0) else .t [.a [.nil,.nil],.i .i64 0,.i .i64 2]):=by
  refine Q7 hm hf (Nat.le_of_ble_eq_true rfl) ?_
  unfold holes_Fill.c
  rw[h0]at hl1
  have hfm:m.fillM=⟨m.verts,trK m m.loops.1 m.loops.1.length⟩:=by unfold trK;rw[List.take_length];rfl
  rw[hfm]
  generalize m.loops.1=ls at *
  have hok:(trK m ls ls.length).length<=4096->(if (trK m ls ls.length).length<=4096 then Xo (⟨m.verts,trK m ls ls.length⟩,(ls.length:Int),0) else V.t [.a [.nil,.nil],.i .i64 0,.i .i64 2])=Xo (⟨m.verts,trK m ls ls.length⟩,(ls.length:Int),0):=λh=>if_pos h
  have hno:¬ (trK m ls ls.length).length<=4096->(if (trK m ls ls.length).length<=4096 then Xo (⟨m.verts,trK m ls ls.length⟩,(ls.length:Int),0) else V.t [.a [.nil,.nil],.i .i64 0,.i .i64 2])=V.t [.a [.nil,.nil],.i .i64 0,.i .i64 2]:=λh=>if_neg h
  simp only
  generalize (if (trK m ls ls.length).length<=4096 then Xo (⟨m.verts,trK m ls ls.length⟩,(ls.length:Int),0) else V.t [.a [.nil,.nil],.i .i64 0,.i .i64 2])=RR at *
  simp[go_sem,Mesh.enc,Mesh.cs,vsV,tsV]
  refine Q3 (hc m) ?_
  simp[go_sem,hz]
  refine Q3 hl1 ?_
  simp[go_sem]
  refine Wo (hcv (m.verts.map V3.cs) (by simp[Y7]) (by simp;omega)) (by simp[V.cl,V.cl1,V.cl0]) ?_
  simp[go_sem]
  refine Wo (hct (m.tris.map T3.cs) (by simp[Zw]) (by simp;omega)) (by simp[V.cl,V.cl1,V.cl0]) ?_
  have hsv:∀(n:Nat) (a:V3),List.map (V.sh1 n) a.cs=a.cs:=λn a=>by simp[vcs,V.sh1,V.sh0]
  have hst:∀(n:Nat) (a:T3),List.map (V.sh1 n) a.cs=a.cs:=λn a=>by simp[tcs,V.sh1,V.sh0]
  simp[go_sem,lsV,hsv,hst]
  refine Qe (α:=Nat) (λk=>k<=ls.length/\(trK m ls k).length<=4096)
   (λk=>⟨[(2,.p 1 1 0 0),(6,lsV ls),(8,.p 4 1 0 0),(33,lsV ls),(34,.i .i64 ls.length),(35,.i .i64 k)],
    [.dead,.arr 1 2 [[.nil,.nil]],.arr 1 3 (m.verts.map V3.cs),.arr (k+1) 3 ((trK m ls k).map T3.cs),.arr 1 2 [[.own 2 1 0 m.verts.length,.own 3 (k+1) 0 (trK m ls k).length]]]⟩)
   (λk=>ls.length-k) 0 ⟨Nat.zero_le _,by simpa[trK]using z2⟩ ?_ ?_
  ·have h00:trK m ls 0=m.tris:=by simp[trK]
   simp[go_sem,lsV,h00,hsv,hst,Jf,Qp]
  ·rintro k ⟨hk,hT⟩
   by_cases hkl:k=ls.length
   ·subst hkl
    rw[hok hT]
    have htkl:List.take (trK m ls ls.length).length ((trK m ls ls.length).map T3.cs)=(trK m ls ls.length).map T3.cs:=List.take_of_length_le (by simp)
    generalize trK m ls ls.length=T at *
    simp[go_sem,lsV,holes_Fill.r,Xo,Mesh.enc,Mesh.cs,vsV,tsV,Y7,Zw]
   ·have hlt:k<ls.length:=by omega
    have hp:ls[k]?=some ls[k]:=List.getElem?_eq_getElem hlt
    have hmw:ls[k]∈ls:=List.getElem_mem _
    have htk:=Qd hp
    have hpre:ls.flatMap Yg=(ls.take k).flatMap Yg++(Yg ls[k]++(ls.drop (k+1)).flatMap Yg):=by
     have h1:=List.take_append_drop k ls
     rw[List.drop_eq_getElem_cons hlt]at h1
     have h2:=congrArg (List.flatMap Yg) h1
     rw[List.flatMap_append,List.flatMap_cons]at h2
     exact h2.symm
    generalize ls[k]=w at hp hmw htk hpre
    obtain⟨_,hp'⟩:=List.getElem?_eq_some_iff.1 hp
    have hwl:=heach w hmw
    have hfl:=fanOf_len w
    have hts:trK m ls (k+1)=trK m ls k++Yg w:=by
     unfold trK
     rw[htk,List.flatMap_append,<- List.append_assoc];simp
    have hov:4096<(trK m ls k).length+(Yg w).length->¬ (trK m ls ls.length).length<=4096:=by
     intro hh
     unfold trK at hh ⊢
     rw[List.take_length,hpre]
     simp only[List.length_append]at hh ⊢
     omega
    have hff1:=hff w (by omega)
    generalize hTk:trK m ls k=T at *
    simp[go_sem,lsV,hlt,hp,hp']
    refine Q3 hff1 ?_
    simp[go_sem]
    refine (he _ 4 3 (k+1) (.own 2 1 0 m.verts.length) T (Yg w) (by omega) rfl rfl hT (by omega)).mono ?_
    rintro r h' (⟨q1,rfl,rfl⟩ | ⟨q1,rfl,rfl⟩)
    ·rw[hno (hov q1)]
     simp[go_sem,lsV,holes_Fill.r]
    ·simp (disch:=omega) [go_sem,lsV,Q0]
     refine⟨k+1,⟨by omega,by rw[hts];simpa using q1⟩,by omega,by simp,?_⟩
     rw[hts]
     simp[or_imp,forall_and,Jf,Qp]
 by_cases hT:m.fillM.tris.length<=4096
 ·have hR:Qu m=(m.fillM,(m.loops.1.length:Int),0):=by unfold Qu;rw[if_pos h0,if_pos hT]
  rw[if_pos hT]at hmain
  rw[hR]
  exact PureC.is hmain rfl
 ·have hR:Qu m=(Zc,0,2):=by unfold Qu;rw[if_pos h0,if_neg hT]
  rw[if_neg hT]at hmain
  rw[hR]
  exact CallIs.res (PureC.is hmain rfl) (Wh _)
end
end Go.Abs
