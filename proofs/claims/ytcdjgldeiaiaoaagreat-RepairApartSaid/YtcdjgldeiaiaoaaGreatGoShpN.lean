/- Part of the library on which the proof stands: an abstract machine, its values and its soundness against the model; or what functions of the program do to such values. -/
import Derived.Test.YtcdjgldeiaiaoaaGreatGoWeB
import Derived.Test.YtcdjgldeiaiaoaaGreatGoSet
import Derived.Test.YtcdjgldeiaiaoaaGreatGoShpA
import Derived.Test.YtcdjgldeiaiaoaaGreatGoToA
set_option linter.unusedVariables false
set_option linter.unusedSimpArgs false
set_option maxHeartbeats 8000000
set_option maxRecDepth 20000
namespace Go.Abs
open Go.Sort
def dd (l:List V3):List V3:=l.foldl (λacc v=>if v∈acc then acc else acc++[v]) []
theorem Qfb (l:List V3) (v:V3):dd (l++[v])=if v∈dd l then dd l else dd l++[v]:=by unfold dd;rw[List.foldl_append];rfl
theorem dd_ok (l:List V3):(dd l).Nodup/\(∀v,v∈dd l↔v∈l)/\(dd l).length<=l.length:=by
 refine Ui (p:=λl=>(dd l).Nodup/\(∀v,v∈dd l↔v∈l)/\(dd l).length<=l.length) ?_ ?_ l
 ·simp[dd]
 ·intro E x ih
  rw[Qfb]
  split
  ·rename_i h
   refine⟨ih.1,λv=>?_,by simp;omega⟩
   rw[ih.2.1,qg,qo]
   constructor
   ·exact .inl
   ·rintro (h1 | rfl)
    ·exact h1
    ·exact(ih.2.1 v).1 h
  ·rename_i h
   refine⟨?_,λv=>by rw[qg,ih.2.1,qg],by simp;omega⟩
   rw[List.nodup_append]
   exact⟨ih.1,by simp,λa ha b hb=>by simp at hb;subst hb;rintro rfl;exact h ha⟩
def Qmz (P:Program) (f:FuncId):Prop:=∀m:Mesh,m.check=0->CallIs P f [m.enc] (vsV m.wverts)
theorem Qbz {m:Mesh} {l:List T3} {k:Nat} {t:T3} (h:l[k]?=some t):m.usedL (l.take (k+1))=m.usedL (l.take k)++m.cor t:=by simp[Mesh.usedL,List.take_add_one,h]
theorem Q66 (m:Mesh) (l:List T3):(m.usedL l).length=3*l.length:=by
 unfold Mesh.usedL
 induction l with
 | nil=>rfl
 | cons t l ih=>simp only[List.flatMap_cons,j3,ih,List.length_cons];simp[Mesh.cor];omega
def Qb (m:Mesh):Mesh × Int × Int:=if m.check=0 then (m.weldM,(m.verts.length:Int)-m.wverts.length,0) else (noMesh,0,m.check)
def Qei (r:Mesh × Int × Int):V:=.t [r.1.enc,.i .i64 r.2.1,.i .i64 r.2.2]
theorem Qit (n e:Int):Le (.t [.a [.nil,.nil],.i .i64 n,.i .i64 e]) (Qei (noMesh,n,e)) :=
 .inr ⟨_,_,rfl,rfl,.inr ⟨_,_,rfl,rfl,Le0.nil 3,Le0.nil 3,trivial⟩,Le1.refl _,Le1.refl _,trivial⟩
def wlK (W:List V3) (k:Nat):List (V3 × Int):=(List.range k).map λ(i:Nat)=>((W[i]?).getD ⟨0,0,0⟩,(i:Int))
theorem Qis (W:List V3) (k:Nat):wlK W (k+1)=wlK W k++[((W[k]?).getD ⟨0,0,0⟩,(k:Int))]:=by simp[wlK,List.range_succ]
theorem Qeh {W:List V3} {k i:Nat} (h:i<k):(wlK W k)[i]?=some ((W[i]?).getD ⟨0,0,0⟩,(i:Int)):=by simp[wlK,h]
theorem Q9c {W:List V3} {k:Nat} (h:k<=W.length):(wlK W k).map Prod.fst=W.take k:=by
 apply qy
 intro i
 rw[qq,jb]
 by_cases hi:i<k
 ·rw[Qeh hi,if_pos hi,q9 (show i<W.length by omega)];rfl
 ·rw[if_neg hi,qk (by simp[wlK];omega)];rfl
theorem Q71 (W:List V3) (k n:Nat):∀(a b:V) (x:V3) (y:Int),(x,y)∈wlK W k->asG V3.enc (V.i .i64) (x,y)=(a,b)->a.cl n=true/\b.cl n=true:=by
 rintro a b x y _ h
 simp only[asG,Prod.mk.injEq]at h
 obtain⟨rfl,rfl⟩:=h
 exact⟨Xe x n,rfl⟩
def Qmw (P:Program) (f:FuncId):Prop:=∀m:Mesh,CallIs P f [m.enc] (Qei (Qb m))
def jth (t:T3) (j:Nat):Int:=if j=0 then t.a else if j=1 then t.b else t.c
theorem Q62 (m:Mesh) (t:T3) {j:Nat} (h:j<3):(m.cor t).take (j+1)=(m.cor t).take j++[m.v (jth t j)]:=by
 have:j=0∨j=1∨j=2:=by omega
 rcases this with rfl | rfl | rfl<;>rfl
theorem I6 {m:Mesh} {i:Int} (h0:0<=i) (hi:i<m.verts.length):m.verts[i.toNat]?=some (m.v i):=by
 have hlt:i.toNat<m.verts.length:=by omega
 rw[q9 hlt,m.v_get hi hlt]
section
variable {P:Program} (hm:P.follows .mixedOrders=true)
include hm
theorem Q72 {f fs fo:FuncId} (hf:Qc P f (L22.c fs fo) L22.r L22.n) (hs:Qbm P fs 3) (ho:Qo2 P fo) (hcal:Z4 P fo=true):Qmz P f:=by
 intro m hz
 obtain⟨z1,z2,z3,z4⟩:=Mesh.check_zero.1 hz
 refine PureC.is (Q9 hm hf (qh rfl) ?_) rfl
 unfold L22.c
 simp[go_sem,Mesh.enc,Mesh.cs,tsV]
 refine Y9 [.t 4 3] (α:=Nat) (λk=>k<=m.tris.length)
  (λk=>⟨[(1,.p 0 1 0 0),(3,.mp 1),(4,.own 2 ((dd (m.usedL (m.tris.take k))).length+1) 0 (dd (m.usedL (m.tris.take k))).length),(12,tsV m.tris),(13,.i .i64 m.tris.length),(14,.i .i64 k)],
   [.arr 1 2 [m.cs],.mp ((dd (m.usedL (m.tris.take k))).map (kt V3.enc)),.arr ((dd (m.usedL (m.tris.take k))).length+1) 3 ((dd (m.usedL (m.tris.take k))).map V3.cs)]⟩)
  (λk=>m.tris.length-k) 0 (Nat.zero_le _) ?_ ?_
 ·simp[go_sem,Mesh.cs,vsV,tsV,Mesh.usedL,dd]
 ·intro k hk
  by_cases hkl:k=m.tris.length
  ·subst hkl
   rw[qi]
   obtain⟨u1,u2,u3⟩:=dd_ok (m.usedL m.tris)
   rw[Q66]at u3
   obtain⟨ys,hperm,hup,hcall⟩:=hs V3.ints (λ_=>rfl) Qdo swoV fo hcal (λa b=>ho a b) (dd (m.usedL m.tris)) (by omega)
   have hys:ys=m.wverts:=by
    rw[Q92 V3.ltO hperm u1 (hup.imp (by intro a b h;rw[ltV]at h;simpa using h))]
    refine Km V3.ltO (Bx V3.ltO _) (Bx V3.ltO _) λv=>?_
    rw[Bh,u2]
    exact(Bh (lt:=V3.lt)).symm
   have hl2:m.wverts.length=(dd (m.usedL m.tris)).length:=by rw[<- hys];exact hperm.length_eq
   have hy2:ys.map (λx=>x.ints.map (V.i .i64))=m.wverts.map V3.cs:=by rw[hys];rfl
   generalize dd (m.usedL m.tris)=U at *
   simp[go_sem,Mesh.cs,tsV]
   refine J4 (hcall _ 2 _ rfl) ?_
   rw[hy2]
   have ht:List.take U.length (m.wverts.map V3.cs)=m.wverts.map V3.cs:=qe (by simp[hl2])
   simp[go_sem,L22.r,vsV,Yy,hl2,ht]
  ·have hlt:k<m.tris.length:=by omega
   have hp:m.tris[k]?=some m.tris[k]:=q9 hlt
   have htm:m.tris[k]∈m.tris:=List.getElem_mem _
   generalize m.tris[k]=t at hp htm
   obtain⟨_,hp'⟩:=q8.1 hp
   have htk:=tok hz htm
   have hsucc:=Qbz (m:=m) hp
   simp[go_sem,Mesh.cs,tsV,hlt,hp,hp',tcs]
   have hul:=Q66 m (m.tris.take k)
   have hkl2:(m.tris.take k).length<=k:=by simp;omega
   generalize hA:m.usedL (m.tris.take k)=A at *
   refine Ql (α:=Nat) (λj=>j<=3)
    (λj=>⟨[(1,.p 0 1 0 0),(3,.mp 1),(4,.own 2 ((dd (A++(m.cor t).take j)).length+1) 0 (dd (A++(m.cor t).take j)).length),(12,tsV m.tris),(13,.i .i64 m.tris.length),(14,.i .i64 k),(24,t.enc),(25,.i .i64 j)],
     [.arr 1 2 [m.cs],.mp ((dd (A++(m.cor t).take j)).map (kt V3.enc)),.arr ((dd (A++(m.cor t).take j)).length+1) 3 ((dd (A++(m.cor t).take j)).map V3.cs)]⟩)
    (λj=>3-j) 0 (by omega) ?_ ?_
   ·simp[go_sem,Mesh.cs,vsV,tsV,T3.enc,tcs]
    exact λa _=>⟨Xe a 3,rfl⟩
   ·intro j hj
    by_cases hj3:j=3
    ·subst hj3
     have h3:(m.cor t).take 3=m.cor t:=rfl
     rw[h3,<- hsucc]
     simp (disch:=omega) [go_sem,Mesh.cs,tsV,vsV,Q3]
     exact⟨k+1,by omega,by omega,⟨rfl,rfl⟩,⟨rfl,λa _=>⟨Xe a 3,rfl⟩⟩,rfl,rfl⟩
    ·have hj3':j<3:=by omega
     have hdd:=Qfb (A++(m.cor t).take j) (m.v (jth t j))
     rw[j2,<- Q62 m t hj3']at hdd
     obtain⟨u1,u2,u3⟩:=dd_ok (A++(m.cor t).take j)
     have hdl:(A++(m.cor t).take j).length<=3*k+3:=by simp[Mesh.cor];omega
     generalize dd (A++(m.cor t).take j)=U at *
     have hg:=I6 (m:=m) (i:=jth t j) (by unfold jth;split<;>(try split)<;>omega) (by unfold jth;split<;>(try split)<;>omega)
     have hr:0<=jth t j/\jth t j<m.verts.length:=by unfold jth;split<;>(try split)<;>omega
     generalize hi:jth t j=i at *
     obtain⟨hi0,hi1⟩:=hr
     generalize hv:m.v i=v at *
     have hfe:Qi [1,1,1] (V.a [.i .i64 v.x,.i .i64 v.y,.i .i64 v.z]) (U.map (kt V3.enc))=_:=Uo Q4b v U
     obtain⟨hgl,hg'⟩:=q8.1 hg
     have:j=0∨j=1∨j=2:=by omega
     by_cases hmem:v∈U
     ·rw[if_pos hmem]at hfe hdd
      rcases this with rfl | rfl | rfl
      ·have hi':t.a=i:=hi
       simp (disch:=omega) [go_sem,Mesh.cs,vsV,tsV,T3.enc,tcs,hfe,hi',hg,hg',hgl,hi0,vcs,Q3]
       have hdd:dd (A++List.take 1 (m.cor t))=U:=hdd
       exact⟨1,by omega,by omega,⟨by rw[hdd],rfl⟩,⟨by rw[hdd],λa _=>⟨Xe a 3,rfl⟩⟩,by rw[hdd],by rw[hdd]⟩
      ·have hi':t.b=i:=hi
       simp (disch:=omega) [go_sem,Mesh.cs,vsV,tsV,T3.enc,tcs,hfe,hi',hg,hg',hgl,hi0,vcs,Q3]
       have hdd:dd (A++List.take 2 (m.cor t))=U:=hdd
       exact⟨2,by omega,by omega,⟨by rw[hdd],rfl⟩,⟨by rw[hdd],λa _=>⟨Xe a 3,rfl⟩⟩,by rw[hdd],by rw[hdd]⟩
      ·have hi':t.c=i:=hi
       simp (disch:=omega) [go_sem,Mesh.cs,vsV,tsV,T3.enc,tcs,hfe,hi',hg,hg',hgl,hi0,vcs,Q3]
       have hdd:dd (A++List.take 3 (m.cor t))=U:=hdd
       exact⟨3,by omega,by omega,⟨by rw[hdd],rfl⟩,⟨by rw[hdd],λa _=>⟨Xe a 3,rfl⟩⟩,by rw[hdd],by rw[hdd]⟩
     ·rw[if_neg hmem]at hfe hdd
      rcases this with rfl | rfl | rfl
      ·have hi':t.a=i:=hi
       simp (disch:=omega) [go_sem,Mesh.cs,vsV,tsV,T3.enc,tcs,hfe,hi',hg,hg',hgl,hi0,vcs,Q3]
       have hdd:dd (A++List.take 1 (m.cor t))=U++[v]:=hdd
       exact⟨⟨by omega,by omega⟩,1,by omega,by omega,⟨by rw[hdd];simp,rfl⟩,⟨by rw[hdd,qx];rfl,λa _=>⟨Xe a 3,rfl⟩⟩,by rw[hdd];simp,by rw[hdd,qx];rfl⟩
      ·have hi':t.b=i:=hi
       simp (disch:=omega) [go_sem,Mesh.cs,vsV,tsV,T3.enc,tcs,hfe,hi',hg,hg',hgl,hi0,vcs,Q3]
       have hdd:dd (A++List.take 2 (m.cor t))=U++[v]:=hdd
       exact⟨⟨by omega,by omega⟩,2,by omega,by omega,⟨by rw[hdd];simp,rfl⟩,⟨by rw[hdd,qx];rfl,λa _=>⟨Xe a 3,rfl⟩⟩,by rw[hdd];simp,by rw[hdd,qx];rfl⟩
      ·have hi':t.c=i:=hi
       simp (disch:=omega) [go_sem,Mesh.cs,vsV,tsV,T3.enc,tcs,hfe,hi',hg,hg',hgl,hi0,vcs,Q3]
       have hdd:dd (A++List.take 3 (m.cor t))=U++[v]:=hdd
       exact⟨⟨by omega,by omega⟩,3,by omega,by omega,⟨by rw[hdd];simp,rfl⟩,⟨by rw[hdd,qx];rfl,λa _=>⟨Xe a 3,rfl⟩⟩,by rw[hdd];simp,by rw[hdd,qx];rfl⟩
omit hm in
theorem Qbv {m:Mesh} {v:V3} (h:v∈m.wverts):Zd v (wlK m.wverts m.wverts.length)=some ((Xg m.wverts v).toNat,Xg m.wverts v):=by
 have hr:=Ju h
 have hg:=Q4i h
 have hn:((wlK m.wverts m.wverts.length).map Prod.fst).Nodup:=by
  rw[Q9c (Nat.le_refl _),qi]
  exact K0 V3.ltO (Zu m)
 refine U3 hn ?_
 rw[Qeh (by omega),hg,Int.toNat_of_nonneg hr.1];rfl
theorem Q73 {f fc fu:FuncId} (hf:Qc P f (L1z.c fc fu) L1z.r L1z.n) (hc:Zp P fc) (hu:Qmz P fu):Qmw P f:=by
 intro m
 by_cases hz:m.check=0
 case neg =>
  have he:Qb m=(noMesh,0,m.check):=by simp[Qb,hz]
  rw[he]
  refine CallIs.res (r:=.t [.a [.nil,.nil],.i .i64 0,.i .i64 m.check]) ?_ (Qit 0 m.check)
  refine PureC.is (Q9 hm hf (qh rfl) ?_) rfl
  unfold L1z.c
  simp[go_sem,Mesh.enc,Mesh.cs,vsV,tsV]
  refine Q6 (hc m) ?_
  simp[go_sem,hz,L1z.r]
 have he:Qb m=(m.weldM,(m.verts.length:Int)-m.wverts.length,0):=by simp[Qb,hz]
 rw[he]
 obtain⟨z1,z2,z3,z4⟩:=Mesh.check_zero.1 hz
 have hwl:=Ea hz
 refine PureC.is (Q9 hm hf (qh rfl) ?_) rfl
 unfold L1z.c
 simp[go_sem,Mesh.enc,Mesh.cs,vsV,tsV]
 refine Q6 (hc m) ?_
 simp[go_sem,hz]
 refine Q6 (hu m hz) ?_
 simp[go_sem,vsV]
 refine Ql (α:=Nat) (λk=>k<=m.wverts.length)
  (λk=>⟨[(1,.p 0 1 0 0),(2,.p 1 1 0 0),(6,.p 2 1 0 0),(7,.mp 3),(26,vsV m.wverts),(27,.i .i64 m.wverts.length),(28,.i .i64 k)],
   [.arr 1 2 [m.cs],.arr 1 2 [[.nil,.nil]],.arr 1 2 [[vsV m.wverts,.nil]],.mp ((wlK m.wverts k).map (asG V3.enc (V.i .i64)))]⟩)
  (λk=>m.wverts.length-k) 0 (Nat.zero_le _) ?_ ?_
 ·simp[go_sem,Mesh.cs,vsV,tsV]
  exact⟨rfl,Q71 _ _ _⟩
 ·intro k hk
  by_cases hkl:k=m.wverts.length
  ·subst hkl
   simp[go_sem,Mesh.cs,vsV,tsV]
   refine Y9 [.c 2 0 1 3] (α:=Nat) (λk=>k<=m.tris.length)
    (λk=>⟨[(1,.p 0 1 0 0),(2,.p 1 1 0 0),(6,.p 2 1 0 0),(7,.mp 3),(38,tsV m.tris),(39,.i .i64 m.tris.length),(40,.i .i64 k)],
     [.arr 1 2 [m.cs],.arr 1 2 [[.nil,.nil]],.arr 1 2 [[vsV m.wverts,.own 4 (k+1) 0 k]],.mp ((wlK m.wverts m.wverts.length).map (asG V3.enc (V.i .i64))),.arr (k+1) 3 (((m.tris.take k).map (K3 m m.wverts)).map T3.cs)]⟩)
    (λk=>m.tris.length-k) 0 (Nat.zero_le _) ?_ ?_
   ·simp[go_sem,Mesh.cs,vsV,tsV]
    exact Q71 _ _ _
   ·intro k hk
    by_cases hkl:k=m.tris.length
    ·subst hkl
     simp (disch:=omega) [go_sem,Mesh.cs,vsV,tsV,Q3,L1z.r]
     simp[Qei,Mesh.weldM,Mesh.enc,Mesh.cs,vsV,tsV]
    ·have hlt:k<m.tris.length:=by omega
     have hp:m.tris[k]?=some m.tris[k]:=q9 hlt
     have htm:m.tris[k]∈m.tris:=List.getElem_mem _
     generalize m.tris[k]=t at hp htm
     obtain⟨_,hp'⟩:=q8.1 hp
     obtain⟨i0,i1,j0,j1,l0,l1⟩:=tok hz htm
     obtain⟨c1,c2,c3⟩:=Uq htm
     have g1:=I6 i0 i1
     have g2:=I6 j0 j1
     have g3:=I6 l0 l1
     obtain⟨q1,r1⟩:=q8.1 g1
     obtain⟨q2,r2⟩:=q8.1 g2
     obtain⟨q3,r3⟩:=q8.1 g3
     have f1:Qi [1,1,1] (V.a [.i .i64 (m.v t.a).x,.i .i64 (m.v t.a).y,.i .i64 (m.v t.a).z]) ((wlK m.wverts m.wverts.length).map (asG V3.enc (V.i .i64)))=_:=Xh Q4b (V.i .i64) (m.v t.a) _
     have f2:Qi [1,1,1] (V.a [.i .i64 (m.v t.b).x,.i .i64 (m.v t.b).y,.i .i64 (m.v t.b).z]) ((wlK m.wverts m.wverts.length).map (asG V3.enc (V.i .i64)))=_:=Xh Q4b (V.i .i64) (m.v t.b) _
     have f3:Qi [1,1,1] (V.a [.i .i64 (m.v t.c).x,.i .i64 (m.v t.c).y,.i .i64 (m.v t.c).z]) ((wlK m.wverts m.wverts.length).map (asG V3.enc (V.i .i64)))=_:=Xh Q4b (V.i .i64) (m.v t.c) _
     rw[Qbv c1]at f1
     rw[Qbv c2]at f2
     rw[Qbv c3]at f3
     simp only[Option.map_some]at f1 f2 f3
     have hMc:=Q71 m.wverts m.wverts.length 5
     have hwt:K3 m m.wverts t=⟨Xg m.wverts (m.v t.a),Xg m.wverts (m.v t.b),Xg m.wverts (m.v t.c)⟩:=rfl
     generalize m.v t.a=va at *
     generalize m.v t.b=vb at *
     generalize m.v t.c=vc at *
     have hsu:((m.tris.take (k+1)).map (K3 m m.wverts)).map T3.cs=((m.tris.take k).map (K3 m m.wverts)).map T3.cs++[(K3 m m.wverts t).cs]:=by rw[List.take_add_one,hp];simp
     have htk:List.take k (((m.tris.take k).map (K3 m m.wverts)).map T3.cs)=((m.tris.take k).map (K3 m m.wverts)).map T3.cs:=qe (by simp;omega)
     have hkk:k<=(m.tris.take k).length:=by simp;omega
     simp (disch:=omega) [go_sem,Mesh.cs,vsV,tsV,hlt,hp,hp',tcs,vcs,i0,j0,l0,q1,q2,q3,g1,g2,g3,r1,r2,r3,f1,f2,f3,Q3]
     refine⟨⟨by omega,by omega⟩,k+1,by omega,by omega,rfl,rfl,hMc,⟨rfl,?_⟩,?_⟩
     ·rw[List.take_take,Nat.min_self,List.take_add_one,qq,hp]
      simp[hwt,tcs]
     ·intro el hel x hx
      obtain⟨s,_,rfl⟩:=qp.1 (jh hel)
      exact of_eq_true (Zg _ 5) x hx
  ·have hlt:k<m.wverts.length:=by omega
   have hp:m.wverts[k]?=some m.wverts[k]:=q9 hlt
   generalize m.wverts[k]=v at hp
   obtain⟨_,hp'⟩:=q8.1 hp
   have hfe:Qi [1,1,1] (V.a [.i .i64 v.x,.i .i64 v.y,.i .i64 v.z]) _=_:=Xh Q4b (V.i .i64) v (wlK m.wverts k)
   have hno:Zd v (wlK m.wverts k)=none:=by
    rw[fndG_none,Q9c (by omega)]
    intro hm'
    obtain⟨i,hi⟩:=qr hm'
    rw[jb]at hi
    split at hi
    ·rename_i hik
     have hnd:=K0 V3.ltO (Zu m)
     have h1:=K6 hnd hi
     have h2:=K6 hnd hp
     omega
    ·simp at hi
   rw[hno,Option.map_none]at hfe
   simp (disch:=omega) [go_sem,Mesh.cs,vsV,tsV,hlt,hp,hp',vcs,hfe,Q3]
   have hsu:=Qis m.wverts k
   rw[hp]at hsu
   exact⟨k+1,by omega,by omega,rfl,by rw[hsu,qx];rfl,Q71 _ _ _⟩
end
def Mesh.degI (m:Mesh) (i:Int):Bool:=if 0<=i/\i<m.tris.length/\m.check=0 then match m.tris[i.toNat]? with
    | some t=>m.deg t
    | none=>false
 else false
def DegC (P:Program) (f:FuncId):Prop:=∀(m:Mesh) (i:Int),CallIs P f [m.enc,.i .i64 i] (.b (m.degI i))
def Qe (m:Mesh):Mesh × Int × Int × Int:=if m.check=0 then (m.cleanM,((Qr m.deg m.tris).deg:Nat),((Qr m.deg m.tris).twin:Nat),0) else (noMesh,0,0,m.check)
def Q8v (r:Mesh × Int × Int × Int):V:=.t [r.1.enc,.i .i64 r.2.1,.i .i64 r.2.2.1,.i .i64 r.2.2.2]
def Qee (P:Program) (f:FuncId):Prop:=∀m:Mesh,CallIs P f [m.enc] (Q8v (Qe m))
theorem Qhx (e:Int):Le (.t [.a [.nil,.nil],.i .i64 0,.i .i64 0,.i .i64 e]) (Q8v (noMesh,0,0,e)) :=
 .inr ⟨_,_,rfl,rfl,.inr ⟨_,_,rfl,rfl,Le0.nil 3,Le0.nil 3,trivial⟩,Le1.refl _,Le1.refl _,Le1.refl _,trivial⟩
theorem mem_turned {l:List T3} {t:T3}:(t.turned∈l.map T3.turned)↔l.any (T3.twins t)=true:=by
 rw[qp,List.any_eq_true]
 constructor
 ·rintro⟨a,h1,h2⟩;exact⟨a,h1,turned_iff.1 h2.symm⟩
 ·rintro⟨a,h1,h2⟩;exact⟨a,h1,(turned_iff.2 h2).symm⟩
section
variable {P:Program} (hm:P.follows .mixedOrders=true)
include hm
theorem Ec {f fc fv:FuncId} (hf:Qc P f (L1y.c fc fv) L1y.r L1y.n) (hc:Q58 P fc) (hv:Qfo P fv):DegC P f:=by
 intro m i
 refine PureC.is (Q9 hm hf (qh rfl) ?_) rfl
 unfold L1y.c
 simp[go_sem,Mesh.enc,Mesh.cs]
 refine Q6 (hc m i) ?_
 by_cases h:0<=i/\i<m.tris.length/\m.check=0
 ·obtain⟨t,ht⟩:∃t,m.tris[i.toNat]?=some t:=⟨_,q9 (show i.toNat<m.tris.length by omega)⟩
  have e1:m.corners i=.t [(m.v t.a).enc,(m.v t.b).enc,(m.v t.c).enc,.b true]:=by unfold Mesh.corners;rw[if_pos h,ht]
  have e2:m.degI i=m.deg t:=by unfold Mesh.degI;rw[if_pos h,ht]
  rw[e1,e2]
  simp[go_sem,V3.enc,vcs]
  refine Q6 (hv (m.v t.a) (m.v t.b) (m.v t.c)) ?_
  simp[go_sem,L1y.r,Mesh.deg]
 ·have e1:m.corners i=.t [zV3,zV3,zV3,.b false]:=by unfold Mesh.corners;rw[if_neg h]
  have e2:m.degI i=false:=by unfold Mesh.degI;rw[if_neg h]
  rw[e1,e2]
  simp[go_sem,zV3,L1y.r]
theorem Q5c {f fc fl ft fv:FuncId} (hf:Qc P f (L1x.c fc fl ft fv) L1x.r L1x.n) (hc:Zp P fc) (hl:Yj P fl 3) (ht:Q93 P ft) (hv:Qfo P fv):Qee P f:=by
 intro m
 by_cases hz:m.check=0
 case neg =>
  have he:Qe m=(noMesh,0,0,m.check):=by simp[Qe,hz]
  rw[he]
  refine CallIs.res (r:=.t [.a [.nil,.nil],.i .i64 0,.i .i64 0,.i .i64 m.check]) ?_ (Qhx m.check)
  refine PureC.is (Q9 hm hf (qh rfl) ?_) rfl
  unfold L1x.c
  simp[go_sem,Mesh.enc,Mesh.cs,vsV,tsV]
  refine Q6 (hc m) ?_
  simp[go_sem,hz,L1x.r]
 have he:Qe m=(m.cleanM,(((Qr m.deg m.tris).deg:Nat):Int),(((Qr m.deg m.tris).twin:Nat):Int),0):=by simp[Qe,hz]
 rw[he]
 obtain⟨z1,z2,z3,z4⟩:=Mesh.check_zero.1 hz
 refine PureC.is (Q9 hm hf (qh rfl) ?_) rfl
 unfold L1x.c
 simp[go_sem,Mesh.enc,Mesh.cs,vsV,tsV]
 refine Q6 (hc m) ?_
 simp[go_sem,hz]
 refine Ut (hl (m.verts.map V3.cs) (by simp[qj,vcs,V.isD]) (by simp;omega)) (by simp[go_sem,V.cl,V.cl1,V.cl0]) ?_
 simp[go_sem,vsV]
 refine Y9 [.c 3 0 1 3] (α:=Nat) (λk=>k<=m.tris.length)
  (λk=>⟨[(1,.p 0 1 0 0),(2,.p 1 1 0 0),(7,.p 3 1 0 0),(8,.mp 4),(9,.i .i64 (Qr m.deg (m.tris.take k)).deg),(10,.i .i64 (Qr m.deg (m.tris.take k)).twin),(26,tsV m.tris),(27,.i .i64 m.tris.length),(28,.i .i64 k)],
   [.arr 1 2 [m.cs],.arr 1 2 [[.nil,.nil]],.arr 1 3 (m.verts.map V3.cs),.arr 1 2 [[.own 2 1 0 m.verts.length,.own 5 ((Qr m.deg (m.tris.take k)).out.length+1) 0 (Qr m.deg (m.tris.take k)).out.length]],
    .mp (((Qr m.deg (m.tris.take k)).out.map T3.turned).map (kt T3.enc)),.arr ((Qr m.deg (m.tris.take k)).out.length+1) 3 ((Qr m.deg (m.tris.take k)).out.map T3.cs)]⟩)
  (λk=>m.tris.length-k) 0 (Nat.zero_le _) ?_ ?_
 ·simp[go_sem,Mesh.cs,vsV,tsV,Qr]
  exact λa _=>by simp[vcs,V.sh1,V.sh0]
 ·intro k hk
  by_cases hkl:k=m.tris.length
  ·subst hkl
   rw[qi]
   simp (disch:=omega) [go_sem,Mesh.cs,vsV,tsV,Q3,L1x.r]
   simp[Q8v,Mesh.cleanM,Mesh.enc,Mesh.cs,vsV,tsV]
  ·have hlt:k<m.tris.length:=by omega
   have hp:m.tris[k]?=some m.tris[k]:=q9 hlt
   have htm:m.tris[k]∈m.tris:=List.getElem_mem _
   generalize m.tris[k]=t at hp htm
   obtain⟨_,hp'⟩:=q8.1 hp
   obtain⟨i0,i1,j0,j1,l0,l1⟩:=tok hz htm
   have g1:=I6 i0 i1
   have g2:=I6 j0 j1
   have g3:=I6 l0 l1
   obtain⟨q1,r1⟩:=q8.1 g1
   obtain⟨q2,r2⟩:=q8.1 g2
   obtain⟨q3,r3⟩:=q8.1 g3
   have hst:=Qb9 m.deg hp
   have hok:=Kl m.deg (m.tris.take k)
   have hsum:=hok.sum
   have hkl2:(m.tris.take k).length=k:=by simp;omega
   rw[hkl2]at hsum
   have hdeg:m.deg t=Kb (m.v t.a) (m.v t.b) (m.v t.c):=rfl
   generalize Qr m.deg (m.tris.take k)=s at *
   simp (disch:=omega) [go_sem,Mesh.cs,vsV,tsV,hlt,hp,hp',tcs]
   refine Q6 (ht t) ?_
   simp (disch:=omega) [go_sem,Mesh.cs,vsV,tsV,T3.enc,tcs,vcs,i0,j0,l0,q1,q2,q3,g1,g2,g3,r1,r2,r3]
   refine Qp (hv (m.v t.a) (m.v t.b) (m.v t.c)) ?_
   rw[<- hdeg]
   unfold Cl.step at hst
   have hfe:Qi [1,1,1] (V.a [.i .i64 t.turned.a,.i .i64 t.turned.b,.i .i64 t.turned.c]) ((s.out.map T3.turned).map (kt T3.enc))=_:=Uo key_T3 t.turned (s.out.map T3.turned)
   cases hd:m.deg t
   ·rw[hd]at hst
    simp only[Bool.false_eq_true,if_false]at hst
    by_cases hany:s.out.any (T3.twins t)=true
    ·rw[if_pos (mem_turned.2 hany)]at hfe
     rw[if_pos hany]at hst
     rw[List.map_map]at hfe
     simp (disch:=omega) [go_sem,Mesh.cs,vsV,tsV,hfe,Q3]
     refine⟨k+1,by omega,by omega,?_⟩
     rw[hst]
     simp[kt,Zg,T3.enc,tcs,V.cl,V.cl1,V.cl0]
    ·rw[if_neg (λh=>hany (mem_turned.1 h))]at hfe
     rw[if_neg hany]at hst
     rw[List.map_map]at hfe
     simp (disch:=omega) [go_sem,Mesh.cs,vsV,tsV,hfe,Q3]
     refine⟨⟨by omega,by omega⟩,k+1,by omega,by omega,?_⟩
     rw[hst]
     simp[kt,Zg,T3.enc,tcs,V.cl,V.cl1,V.cl0]
   ·rw[hd]at hst
    simp only[if_true]at hst
    simp (disch:=omega) [go_sem,Mesh.cs,vsV,tsV,Q3]
    refine⟨k+1,by omega,by omega,?_⟩
    rw[hst]
    simp[kt,Zg,T3.enc,tcs,V.cl,V.cl1,V.cl0]
end
def V3.inR (v:V3):Bool:=inI v.x && inI v.y && inI v.z
theorem Q5b {p s:V3} (h1:p.valid=true) (h2:(p.add s).valid=true):s.within 131072=true:=by
 have a1:=V3.valid_iff.1 h1
 have a2:=V3.valid_iff.1 h2
 simp only[V3.add]at a2
 rw[within_iff];omega
theorem Qjm (k:Nat):((λel=>List.map (V.sh1 k) el) ∘ V3.cs)=V3.cs:=by funext v;rfl
theorem sh_tcs (k:Nat):((λel=>List.map (V.sh1 k) el) ∘ T3.cs)=T3.cs:=by funext v;rfl
def mixed {α:Type} (l:List α) (g:α->α) (k:Nat):List α:=(l.take k).map g++l.drop k
theorem Qh2 {α:Type} (l:List α) (g:α->α) (k:Nat):(mixed l g k).length=l.length:=by simp[mixed];omega
theorem Qh3 {α:Type} {l:List α} {g:α->α} {k:Nat} (h:k<l.length):(mixed l g k)[k]?=some l[k]:=by
 rw[mixed,qf (by simp;omega)];simp;rw[show k+(k-min k l.length)=k by omega];simp[h]
theorem Qh1 {α:Type} {l:List α} {g:α->α} {k:Nat} (h:k<l.length):(mixed l g k).set k (g l[k])=mixed l g (k+1):=by
 rw[mixed,ji _ _ (by simp;omega),show k-((l.take k).map g).length=0 by simp;omega]
 rw[List.drop_eq_getElem_cons h,List.set_cons_zero,mixed,List.take_add_one,q9 h]
 simp only[Option.toList,qx,List.map_cons,List.map_nil,j2,List.cons_append,List.nil_append]
theorem mixed_0 {α:Type} (l:List α) (g:α->α):mixed l g 0=l:=by simp[mixed]
theorem Qh4 {α:Type} (l:List α) (g:α->α):mixed l g l.length=l.map g:=by simp[mixed]
def Mesh.mapV (m:Mesh) (g:V3->V3):Mesh:=⟨m.verts.map g,m.tris⟩
section
variable {P:Program} (hm:P.follows .mixedOrders=true)
include hm
omit hm in
theorem Qbf {fcv fct fn:FuncId} {caps:List V} {h:List O} {T:List Nat} {g:V3->V3} {κ:X->St->Prop} (m:Mesh) (hv:m.verts.length<=4096) (ht:m.tris.length<=4096)
  (hcv:Yj P fcv 3) (hct:Yj P fct 3) (hcal:Z4 P fn=true) (hT:∀id∈T,id<h.length) (hcaps:∀n,h.length<=n->(V.f fn caps).cl n=true)
  (hcl:∀n,h.length<=n->∀o∈h,o.cl n)
  (hclo:∀v∈m.verts,∀h2:List O,(∀id∈T,h2[id]?=h[id]?)->ACall P fn (v.enc::caps) h2 (λr h'=>r=(g v).enc/\h'=h2))
  (hk:∀env,get 4 env=.p (h.length+1) 1 0 0->κ .r ⟨env,h++[.dead,.arr 1 2 [[.own (h.length+2) 1 0 m.verts.length,.own (h.length+3) 1 0 m.tris.length]],.arr 1 3 ((m.verts.map g).map V3.cs),.arr 1 3 (m.tris.map T3.cs),.arr 1 2 [[.own (h.length+2) 1 0 m.verts.length,.own (h.length+3) 1 0 m.tris.length]]]⟩) :
  AS P h.length (L16.c fcv fct) ⟨Z7 0 [m.enc,.f fn caps],h⟩ κ:=by
 unfold L16.c
 simp[go_sem,Mesh.enc,Mesh.cs,vsV,tsV,Qa,Qd,Qq,Qn]
 refine Xv (hcv _ (by simp[Yy]) (by simp;omega)) rfl ?_
 simp[go_sem,Qa,Qd,Qq,Qn,Qjm]
 refine Xv (hct _ (by simp[Y4]) (by simp;omega)) rfl ?_
 simp[go_sem,Qa,Qd,Qq,Qn,Qjm,sh_tcs]
 refine Ql (α:=Nat) (λk=>k<=m.verts.length)
  (λk=>⟨[(1,.f fn caps),(4,.p (h.length+1) 1 0 0),(5,.p (h.length+4) 1 0 0),(16,.own (h.length+2) 1 0 m.verts.length),(17,.i .i64 m.verts.length),(18,.i .i64 k)],
   h++[.dead,.arr 1 2 [[.nil,.nil]],.arr 1 3 ((mixed m.verts g k).map V3.cs),.arr 1 3 (m.tris.map T3.cs),.arr 1 2 [[.own (h.length+2) 1 0 m.verts.length,.own (h.length+3) 1 0 m.tris.length]]]⟩)
  (λk=>m.verts.length-k) 0 (Nat.zero_le _) ?_ ?_
 ·simp[go_sem,mixed_0]
  refine⟨λx hx=>?_,Z0 (hcl _ (by omega)) ?_⟩
  ·have:=hcaps (h.length+5) (by omega)
   simp only[V.cl,V.cl1,qj]at this
   exact this x hx
  ·simp[go_sem,or_imp,forall_and,V.cl,V.cl1,V.cl0,vcs,tcs]
 ·intro k hk0
  have hml:=Qh2 m.verts g k
  by_cases hkl:k=m.verts.length
  ·subst hkl
   rw[Qh4]
   have hk2:=hk [(1,V.f fn caps),(4,V.p (h.length+1) 1 0 0),(5,V.p (h.length+4) 1 0 0),(16,V.own (h.length+2) 1 0 m.verts.length),(17,V.i .i64 m.verts.length),(18,V.i .i64 m.verts.length),(19,V.b false),(31,V.a [V.own (h.length+2) 1 0 m.verts.length,V.own (h.length+3) 1 0 m.tris.length])] rfl
   rw[List.map_map]at hk2
   simp[go_sem,Qa,Qd,Qq,Qn]
   exact hk2
  ·have hlt:k<m.verts.length:=by omega
   have hget:=Qh3 (g:=g) hlt
   have hset:=Qh1 (g:=g) hlt
   have hgete:∀h',(mixed m.verts g k)[k]'h'=m.verts[k]:=λh'=>(List.getElem_eq_iff h').2 hget
   simp[go_sem,Qa,Qd,Qq,Qn,hlt,hml,hgete,vcs]
   refine⟨hcal,?_⟩
   refine Qec (T:=T) (r:=(g m.verts[k]).enc) (λid hid=>⟨by have:=hT id hid;omega,by have:=hT id hid;simp;omega⟩) (λh2 hag=>hclo m.verts[k] (List.getElem_mem hlt) h2 (λid hid=>?_)) (Qmm (by simp)) ?_
   ·rw[hag id hid,qd (hT id hid)]
   simp[go_sem,Qa,Qd,Qq,Qn,hlt,hml,V3.enc,vcs]
   have hcc:∀x∈caps,V.cl0 (h.length+5) x=true:=λx hx=>by
    have:=hcaps (h.length+5) (by omega)
    simp only[V.cl,V.cl1,qj]at this
    exact this x hx
   have hset2:(List.map V3.cs (mixed m.verts g k)).set k [V.i .i64 (g m.verts[k]).x,V.i .i64 (g m.verts[k]).y,V.i .i64 (g m.verts[k]).z]=List.map V3.cs (mixed m.verts g (k+1)):=by
    rw[<- hset,List.map_set];rfl
   rw[hset2]
   refine⟨k+1,by omega,by omega,⟨hcc,Q3 (by omega) (by omega)⟩,Z0 (hcl _ (by omega)) ?_⟩
   simp[go_sem,or_imp,forall_and,V.cl,V.cl1,V.cl0,vcs,tcs]
theorem Qdu {f fcv fct fn:FuncId} {caps:List V} {h:List O} {T:List Nat} {g:V3->V3} (hf:Qc P f (L16.c fcv fct) L16.r L16.n) (m:Mesh) (hv:m.verts.length<=4096) (ht:m.tris.length<=4096)
  (hcv:Yj P fcv 3) (hct:Yj P fct 3) (hcal:Z4 P fn=true) (hT:∀id∈T,id<h.length) (hcaps:∀n,h.length<=n->(V.f fn caps).cl n=true)
  (hcl:∀n,h.length<=n->∀o∈h,o.cl n)
  (hclo:∀v∈m.verts,∀h2:List O,(∀id∈T,h2[id]?=h[id]?)->ACall P fn (v.enc::caps) h2 (λr h'=>r=(g v).enc/\h'=h2)) :
  ACall P f [m.enc,.f fn caps] h (λr h'=>r=.a [.own (h.length+2) 1 0 m.verts.length,.own (h.length+3) 1 0 m.tris.length] /\
   h'=h++[.dead,.dead,.arr 1 3 ((m.verts.map g).map V3.cs),.arr 1 3 (m.tris.map T3.cs)]):=by
 refine X3 hm hf (qh rfl) (Qbf m hv ht hcv hct hcal hT hcaps hcl hclo λenv he=>?_)
 rw[Wb]
 refine⟨[.a [.own (h.length+2) 1 0 m.verts.length,.own (h.length+3) 1 0 m.tris.length]],h++[.dead,.dead,.arr 1 3 ((m.verts.map g).map V3.cs),.arr 1 3 (m.tris.map T3.cs)],?_,rfl,?_,?_,?_,?_,rfl,rfl⟩
 ·simp[L16.r,Yc,he,go_sem,Qa]
 ·simp[V.cl,V.cl1,V.cl0]
 ·simp
 ·simp
 ·refine Z0 (hcl _ (by simp)) ?_
  simp[go_sem,or_imp,forall_and,V.cl,V.cl1,V.cl0,vcs,tcs]
end
end Go.Abs
