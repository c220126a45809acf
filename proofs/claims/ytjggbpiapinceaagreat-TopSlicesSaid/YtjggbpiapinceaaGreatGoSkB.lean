/- Part of the library on which the proof stands: an abstract machine, its values and its soundness against the model; or what functions of the program do to such values. -/
import Derived.Test.YtjggbpiapinceaaGreatGoWeB
import Derived.Test.YtjggbpiapinceaaGreatGoSet
import Derived.Test.YtjggbpiapinceaaGreatGoRw
import Derived.Test.YtjggbpiapinceaaGreatGoSecE
import Derived.Test.YtjggbpiapinceaaGreatGoSecH
import Derived.Test.YtjggbpiapinceaaGreatGoDet
import Derived.Test.YtjggbpiapinceaaGreatGoRsD
import Derived.Test.YtjggbpiapinceaaGreatGoTpE
set_option linter.unusedVariables false
set_option linter.unusedSimpArgs false
set_option maxHeartbeats 4000000
set_option maxRecDepth 20000
namespace Go.Abs
open Go.Sort
def dd (l:List V3):List V3:=l.foldl (λacc v=>if v∈acc then acc else acc++[v]) []
theorem Qji (l:List V3) (v:V3):dd (l++[v])=if v∈dd l then dd l else dd l++[v]:=by unfold dd;rw[List.foldl_append];rfl
theorem dd_ok (l:List V3):(dd l).Nodup/\(∀v,v∈dd l↔v∈l)/\(dd l).length<=l.length:=by
 refine Eh (p:=λl=>(dd l).Nodup/\(∀v,v∈dd l↔v∈l)/\(dd l).length<=l.length) ?_ ?_ l
 ·simp[dd]
 ·intro E x ih
  rw[Qji]
  split
  ·rename_i h
   refine⟨ih.1,λv=>?_,by simp;omega⟩
   rw[ih.2.1,qg,qo]
   constructor
   ·exact .inl
   ·rintro (h1 | rfl)
    ·exact h1
    ·exact(ih.2.1 v).1 h
  ·rename_i h
   refine⟨?_,λv=>by rw[qg,ih.2.1,qg],by simp;omega⟩
   rw[List.nodup_append]
   exact⟨ih.1,by simp,λa ha b hb=>by simp at hb;subst hb;rintro rfl;exact h ha⟩
def Qst (P:Program) (f:FuncId):Prop:=∀m:Mesh,m.check=0->CallIs P f [m.enc] (vsV m.wverts)
theorem Qfj {m:Mesh} {l:List T3} {k:Nat} {t:T3} (h:l[k]?=some t):m.usedL (l.take (k+1))=m.usedL (l.take k)++m.cor t:=by simp[Mesh.usedL,List.take_add_one,h]
theorem Q8a (m:Mesh) (l:List T3):(m.usedL l).length=3*l.length:=by
 unfold Mesh.usedL
 induction l with
 | nil=>rfl
 | cons t l ih=>simp only[List.flatMap_cons,j4,ih,List.length_cons];simp[Mesh.cor];omega
def Qe (m:Mesh):Mesh × Int × Int:=if m.check=0 then (m.weldM,(m.verts.length:Int)-m.wverts.length,0) else (Zb,0,m.check)
def Qih (r:Mesh × Int × Int):V:=.t [r.1.enc,.i .i64 r.2.1,.i .i64 r.2.2]
theorem Qnw (n e:Int):Le (.t [.a [.nil,.nil],.i .i64 n,.i .i64 e]) (Qih (Zb,n,e)) :=
 .inr ⟨_,_,rfl,rfl,.inr ⟨_,_,rfl,rfl,Le0.nil 3,Le0.nil 3,trivial⟩,Le1.refl _,Le1.refl _,trivial⟩
def wlK (W:List V3) (k:Nat):List (V3 × Int):=(List.range k).map λ(i:Nat)=>((W[i]?).getD ⟨0,0,0⟩,(i:Int))
theorem Qnv (W:List V3) (k:Nat):wlK W (k+1)=wlK W k++[((W[k]?).getD ⟨0,0,0⟩,(k:Int))]:=by simp[wlK,List.range_succ]
theorem Qig {W:List V3} {k i:Nat} (h:i<k):(wlK W k)[i]?=some ((W[i]?).getD ⟨0,0,0⟩,(i:Int)):=by simp[wlK,h]
theorem Qcf {W:List V3} {k:Nat} (h:k<=W.length):(wlK W k).map Prod.fst=W.take k:=by
 apply qy
 intro i
 rw[qq,jc]
 by_cases hi:i<k
 ·rw[Qig hi,if_pos hi,q9 (show i<W.length by omega)];rfl
 ·rw[if_neg hi,qk (by simp[wlK];omega)];rfl
theorem Q9m (W:List V3) (k n:Nat):∀(a b:V) (x:V3) (y:Int),(x,y)∈wlK W k->asG V3.enc (V.i .i64) (x,y)=(a,b)->a.cl n=true/\b.cl n=true:=by
 rintro a b x y _ h
 simp only[asG,Prod.mk.injEq]at h
 obtain⟨rfl,rfl⟩:=h
 exact⟨Xi x n,rfl⟩
def Qsq (P:Program) (f:FuncId):Prop:=∀m:Mesh,CallIs P f [m.enc] (Qih (Qe m))
def jth (t:T3) (j:Nat):Int:=if j=0 then t.a else if j=1 then t.b else t.c
theorem Q82 (m:Mesh) (t:T3) {j:Nat} (h:j<3):(m.cor t).take (j+1)=(m.cor t).take j++[m.v (jth t j)]:=by
 have:j=0∨j=1∨j=2:=by omega
 rcases this with rfl | rfl | rfl<;>rfl
theorem Bf {m:Mesh} {i:Int} (h0:0<=i) (hi:i<m.verts.length):m.verts[i.toNat]?=some (m.v i):=by
 have hlt:i.toNat<m.verts.length:=by omega
 rw[q9 hlt,m.v_get hi hlt]
section
variable {P:Program} (hm:P.follows .mixedOrders=true)
include hm
theorem Q9n {f fs fo:FuncId} (hf:Qa P f (L2o.c fs fo) L2o.r L2o.n) (hs:Wc P fs 3) (ho:Qu6 P fo) (hcal:Z3 P fo=true):Qst P f:=by
 intro m hz
 obtain⟨z1,z2,z3,z4⟩:=Mesh.check_zero.1 hz
 refine PureC.is (Q8 hm hf (qh rfl) ?_) rfl
 unfold L2o.c
 simp[go_sem,Mesh.enc,Mesh.cs,tsV]
 refine Z5 [.t 4 3] (α:=Nat) (λk=>k<=m.tris.length)
  (λk=>⟨[(1,.p 0 1 0 0),(3,.mp 1),(4,.own 2 ((dd (m.usedL (m.tris.take k))).length+1) 0 (dd (m.usedL (m.tris.take k))).length),(12,tsV m.tris),(13,.i .i64 m.tris.length),(14,.i .i64 k)],
   [.arr 1 2 [m.cs],.mp ((dd (m.usedL (m.tris.take k))).map (kt V3.enc)),.arr ((dd (m.usedL (m.tris.take k))).length+1) 3 ((dd (m.usedL (m.tris.take k))).map V3.cs)]⟩)
  (λk=>m.tris.length-k) 0 (Nat.zero_le _) ?_ ?_
 ·simp[go_sem,Mesh.cs,vsV,tsV,Mesh.usedL,dd]
 ·intro k hk
  by_cases hkl:k=m.tris.length
  ·subst hkl
   rw[qi]
   obtain⟨u1,u2,u3⟩:=dd_ok (m.usedL m.tris)
   rw[Q8a]at u3
   obtain⟨ys,hperm,hup,hcall⟩:=hs V3.ints (λ_=>rfl) Qhl swoV fo hcal (λa b=>ho a b) (dd (m.usedL m.tris)) (by omega)
   have hys:ys=m.wverts:=by
    rw[Qbt V3.ltO hperm u1 (hup.imp (by intro a b h;rw[ltV]at h;simpa using h))]
    refine Q0y V3.ltO (Q0z V3.ltO _) (Q0z V3.ltO _) λv=>?_
    rw[Q0k,u2]
    exact(Q0k (lt:=V3.lt)).symm
   have hl2:m.wverts.length=(dd (m.usedL m.tris)).length:=by rw[<- hys];exact hperm.length_eq
   have hy2:ys.map (λx=>x.ints.map (V.i .i64))=m.wverts.map V3.cs:=by rw[hys];rfl
   generalize dd (m.usedL m.tris)=U at *
   simp[go_sem,Mesh.cs,tsV]
   refine Yh (hcall _ 2 _ rfl) ?_
   rw[hy2]
   have ht:List.take U.length (m.wverts.map V3.cs)=m.wverts.map V3.cs:=qe (by simp[hl2])
   simp[go_sem,L2o.r,vsV,Kf,hl2,ht]
  ·have hlt:k<m.tris.length:=by omega
   have hp:m.tris[k]?=some m.tris[k]:=q9 hlt
   have htm:m.tris[k]∈m.tris:=List.getElem_mem _
   generalize m.tris[k]=t at hp htm
   obtain⟨_,hp'⟩:=q8.1 hp
   have htk:=tok hz htm
   have hsucc:=Qfj (m:=m) hp
   simp[go_sem,Mesh.cs,tsV,hlt,hp,hp',tcs]
   have hul:=Q8a m (m.tris.take k)
   have hkl2:(m.tris.take k).length<=k:=by simp;omega
   generalize hA:m.usedL (m.tris.take k)=A at *
   refine Qf (α:=Nat) (λj=>j<=3)
    (λj=>⟨[(1,.p 0 1 0 0),(3,.mp 1),(4,.own 2 ((dd (A++(m.cor t).take j)).length+1) 0 (dd (A++(m.cor t).take j)).length),(12,tsV m.tris),(13,.i .i64 m.tris.length),(14,.i .i64 k),(24,t.enc),(25,.i .i64 j)],
     [.arr 1 2 [m.cs],.mp ((dd (A++(m.cor t).take j)).map (kt V3.enc)),.arr ((dd (A++(m.cor t).take j)).length+1) 3 ((dd (A++(m.cor t).take j)).map V3.cs)]⟩)
    (λj=>3-j) 0 (by omega) ?_ ?_
   ·simp[go_sem,Mesh.cs,vsV,tsV,T3.enc,tcs]
    exact λa _=>⟨Xi a 3,rfl⟩
   ·intro j hj
    by_cases hj3:j=3
    ·subst hj3
     have h3:(m.cor t).take 3=m.cor t:=rfl
     rw[h3,<- hsucc]
     simp (disch:=omega) [go_sem,Mesh.cs,tsV,vsV,Q3]
     exact⟨k+1,by omega,by omega,⟨rfl,rfl⟩,⟨rfl,λa _=>⟨Xi a 3,rfl⟩⟩,rfl,rfl⟩
    ·have hj3':j<3:=by omega
     have hdd:=Qji (A++(m.cor t).take j) (m.v (jth t j))
     rw[j3,<- Q82 m t hj3']at hdd
     obtain⟨u1,u2,u3⟩:=dd_ok (A++(m.cor t).take j)
     have hdl:(A++(m.cor t).take j).length<=3*k+3:=by simp[Mesh.cor];omega
     generalize dd (A++(m.cor t).take j)=U at *
     have hg:=Bf (m:=m) (i:=jth t j) (by unfold jth;split<;>(try split)<;>omega) (by unfold jth;split<;>(try split)<;>omega)
     have hr:0<=jth t j/\jth t j<m.verts.length:=by unfold jth;split<;>(try split)<;>omega
     generalize hi:jth t j=i at *
     obtain⟨hi0,hi1⟩:=hr
     generalize hv:m.v i=v at *
     have hfe:Qj [1,1,1] (V.a [.i .i64 v.x,.i .i64 v.y,.i .i64 v.z]) (U.map (kt V3.enc))=_:=Es Q60 v U
     obtain⟨hgl,hg'⟩:=q8.1 hg
     have:j=0∨j=1∨j=2:=by omega
     by_cases hmem:v∈U
     ·rw[if_pos hmem]at hfe hdd
      rcases this with rfl | rfl | rfl
      ·have hi':t.a=i:=hi
       simp (disch:=omega) [go_sem,Mesh.cs,vsV,tsV,T3.enc,tcs,hfe,hi',hg,hg',hgl,hi0,vcs,Q3]
       have hdd:dd (A++List.take 1 (m.cor t))=U:=hdd
       exact⟨1,by omega,by omega,⟨by rw[hdd],rfl⟩,⟨by rw[hdd],λa _=>⟨Xi a 3,rfl⟩⟩,by rw[hdd],by rw[hdd]⟩
      ·have hi':t.b=i:=hi
       simp (disch:=omega) [go_sem,Mesh.cs,vsV,tsV,T3.enc,tcs,hfe,hi',hg,hg',hgl,hi0,vcs,Q3]
       have hdd:dd (A++List.take 2 (m.cor t))=U:=hdd
       exact⟨2,by omega,by omega,⟨by rw[hdd],rfl⟩,⟨by rw[hdd],λa _=>⟨Xi a 3,rfl⟩⟩,by rw[hdd],by rw[hdd]⟩
      ·have hi':t.c=i:=hi
       simp (disch:=omega) [go_sem,Mesh.cs,vsV,tsV,T3.enc,tcs,hfe,hi',hg,hg',hgl,hi0,vcs,Q3]
       have hdd:dd (A++List.take 3 (m.cor t))=U:=hdd
       exact⟨3,by omega,by omega,⟨by rw[hdd],rfl⟩,⟨by rw[hdd],λa _=>⟨Xi a 3,rfl⟩⟩,by rw[hdd],by rw[hdd]⟩
     ·rw[if_neg hmem]at hfe hdd
      rcases this with rfl | rfl | rfl
      ·have hi':t.a=i:=hi
       simp (disch:=omega) [go_sem,Mesh.cs,vsV,tsV,T3.enc,tcs,hfe,hi',hg,hg',hgl,hi0,vcs,Q3]
       have hdd:dd (A++List.take 1 (m.cor t))=U++[v]:=hdd
       exact⟨⟨by omega,by omega⟩,1,by omega,by omega,⟨by rw[hdd];simp,rfl⟩,⟨by rw[hdd,qx];rfl,λa _=>⟨Xi a 3,rfl⟩⟩,by rw[hdd];simp,by rw[hdd,qx];rfl⟩
      ·have hi':t.b=i:=hi
       simp (disch:=omega) [go_sem,Mesh.cs,vsV,tsV,T3.enc,tcs,hfe,hi',hg,hg',hgl,hi0,vcs,Q3]
       have hdd:dd (A++List.take 2 (m.cor t))=U++[v]:=hdd
       exact⟨⟨by omega,by omega⟩,2,by omega,by omega,⟨by rw[hdd];simp,rfl⟩,⟨by rw[hdd,qx];rfl,λa _=>⟨Xi a 3,rfl⟩⟩,by rw[hdd];simp,by rw[hdd,qx];rfl⟩
      ·have hi':t.c=i:=hi
       simp (disch:=omega) [go_sem,Mesh.cs,vsV,tsV,T3.enc,tcs,hfe,hi',hg,hg',hgl,hi0,vcs,Q3]
       have hdd:dd (A++List.take 3 (m.cor t))=U++[v]:=hdd
       exact⟨⟨by omega,by omega⟩,3,by omega,by omega,⟨by rw[hdd];simp,rfl⟩,⟨by rw[hdd,qx];rfl,λa _=>⟨Xi a 3,rfl⟩⟩,by rw[hdd];simp,by rw[hdd,qx];rfl⟩
omit hm in
theorem Qfe {m:Mesh} {v:V3} (h:v∈m.wverts):Z2 v (wlK m.wverts m.wverts.length)=some ((Uu m.wverts v).toNat,Uu m.wverts v):=by
 have hr:=Qh1 h
 have hg:=Qdz h
 have hn:((wlK m.wverts m.wverts.length).map Prod.fst).Nodup:=by
  rw[Qcf (Nat.le_refl _),qi]
  exact Bt V3.ltO (Xu m)
 refine Yo hn ?_
 rw[Qig (by omega),hg,Int.toNat_of_nonneg hr.1];rfl
theorem Q9o {f fc fu:FuncId} (hf:Qa P f (L2l.c fc fu) L2l.r L2l.n) (hc:Ys P fc) (hu:Qst P fu):Qsq P f:=by
 intro m
 by_cases hz:m.check=0
 case neg =>
  have he:Qe m=(Zb,0,m.check):=by simp[Qe,hz]
  rw[he]
  refine CallIs.res (r:=.t [.a [.nil,.nil],.i .i64 0,.i .i64 m.check]) ?_ (Qnw 0 m.check)
  refine PureC.is (Q8 hm hf (qh rfl) ?_) rfl
  unfold L2l.c
  simp[go_sem,Mesh.enc,Mesh.cs,vsV,tsV]
  refine Q4 (hc m) ?_
  simp[go_sem,hz,L2l.r]
 have he:Qe m=(m.weldM,(m.verts.length:Int)-m.wverts.length,0):=by simp[Qe,hz]
 rw[he]
 obtain⟨z1,z2,z3,z4⟩:=Mesh.check_zero.1 hz
 have hwl:=Q4a hz
 refine PureC.is (Q8 hm hf (qh rfl) ?_) rfl
 unfold L2l.c
 simp[go_sem,Mesh.enc,Mesh.cs,vsV,tsV]
 refine Q4 (hc m) ?_
 simp[go_sem,hz]
 refine Q4 (hu m hz) ?_
 simp[go_sem,vsV]
 refine Qf (α:=Nat) (λk=>k<=m.wverts.length)
  (λk=>⟨[(1,.p 0 1 0 0),(2,.p 1 1 0 0),(6,.p 2 1 0 0),(7,.mp 3),(26,vsV m.wverts),(27,.i .i64 m.wverts.length),(28,.i .i64 k)],
   [.arr 1 2 [m.cs],.arr 1 2 [[.nil,.nil]],.arr 1 2 [[vsV m.wverts,.nil]],.mp ((wlK m.wverts k).map (asG V3.enc (V.i .i64)))]⟩)
  (λk=>m.wverts.length-k) 0 (Nat.zero_le _) ?_ ?_
 ·simp[go_sem,Mesh.cs,vsV,tsV]
  exact⟨rfl,Q9m _ _ _⟩
 ·intro k hk
  by_cases hkl:k=m.wverts.length
  ·subst hkl
   simp[go_sem,Mesh.cs,vsV,tsV]
   refine Z5 [.c 2 0 1 3] (α:=Nat) (λk=>k<=m.tris.length)
    (λk=>⟨[(1,.p 0 1 0 0),(2,.p 1 1 0 0),(6,.p 2 1 0 0),(7,.mp 3),(38,tsV m.tris),(39,.i .i64 m.tris.length),(40,.i .i64 k)],
     [.arr 1 2 [m.cs],.arr 1 2 [[.nil,.nil]],.arr 1 2 [[vsV m.wverts,.own 4 (k+1) 0 k]],.mp ((wlK m.wverts m.wverts.length).map (asG V3.enc (V.i .i64))),.arr (k+1) 3 (((m.tris.take k).map (Ip m m.wverts)).map T3.cs)]⟩)
    (λk=>m.tris.length-k) 0 (Nat.zero_le _) ?_ ?_
   ·simp[go_sem,Mesh.cs,vsV,tsV]
    exact Q9m _ _ _
   ·intro k hk
    by_cases hkl:k=m.tris.length
    ·subst hkl
     simp (disch:=omega) [go_sem,Mesh.cs,vsV,tsV,Q3,L2l.r]
     simp[Qih,Mesh.weldM,Mesh.enc,Mesh.cs,vsV,tsV]
    ·have hlt:k<m.tris.length:=by omega
     have hp:m.tris[k]?=some m.tris[k]:=q9 hlt
     have htm:m.tris[k]∈m.tris:=List.getElem_mem _
     generalize m.tris[k]=t at hp htm
     obtain⟨_,hp'⟩:=q8.1 hp
     obtain⟨i0,i1,j0,j1,l0,l1⟩:=tok hz htm
     obtain⟨c1,c2,c3⟩:=Qbh htm
     have g1:=Bf i0 i1
     have g2:=Bf j0 j1
     have g3:=Bf l0 l1
     obtain⟨q1,r1⟩:=q8.1 g1
     obtain⟨q2,r2⟩:=q8.1 g2
     obtain⟨q3,r3⟩:=q8.1 g3
     have f1:Qj [1,1,1] (V.a [.i .i64 (m.v t.a).x,.i .i64 (m.v t.a).y,.i .i64 (m.v t.a).z]) ((wlK m.wverts m.wverts.length).map (asG V3.enc (V.i .i64)))=_:=Zw Q60 (V.i .i64) (m.v t.a) _
     have f2:Qj [1,1,1] (V.a [.i .i64 (m.v t.b).x,.i .i64 (m.v t.b).y,.i .i64 (m.v t.b).z]) ((wlK m.wverts m.wverts.length).map (asG V3.enc (V.i .i64)))=_:=Zw Q60 (V.i .i64) (m.v t.b) _
     have f3:Qj [1,1,1] (V.a [.i .i64 (m.v t.c).x,.i .i64 (m.v t.c).y,.i .i64 (m.v t.c).z]) ((wlK m.wverts m.wverts.length).map (asG V3.enc (V.i .i64)))=_:=Zw Q60 (V.i .i64) (m.v t.c) _
     rw[Qfe c1]at f1
     rw[Qfe c2]at f2
     rw[Qfe c3]at f3
     simp only[Option.map_some]at f1 f2 f3
     have hMc:=Q9m m.wverts m.wverts.length 5
     have hwt:Ip m m.wverts t=⟨Uu m.wverts (m.v t.a),Uu m.wverts (m.v t.b),Uu m.wverts (m.v t.c)⟩:=rfl
     generalize m.v t.a=va at *
     generalize m.v t.b=vb at *
     generalize m.v t.c=vc at *
     have hsu:((m.tris.take (k+1)).map (Ip m m.wverts)).map T3.cs=((m.tris.take k).map (Ip m m.wverts)).map T3.cs++[(Ip m m.wverts t).cs]:=by rw[List.take_add_one,hp];simp
     have htk:List.take k (((m.tris.take k).map (Ip m m.wverts)).map T3.cs)=((m.tris.take k).map (Ip m m.wverts)).map T3.cs:=qe (by simp;omega)
     have hkk:k<=(m.tris.take k).length:=by simp;omega
     simp (disch:=omega) [go_sem,Mesh.cs,vsV,tsV,hlt,hp,hp',tcs,vcs,i0,j0,l0,q1,q2,q3,g1,g2,g3,r1,r2,r3,f1,f2,f3,Q3]
     refine⟨⟨by omega,by omega⟩,k+1,by omega,by omega,rfl,rfl,hMc,⟨rfl,?_⟩,?_⟩
     ·rw[List.take_take,Nat.min_self,List.take_add_one,qq,hp]
      simp[hwt,tcs]
     ·intro el hel x hx
      obtain⟨s,_,rfl⟩:=qp.1 (jk hel)
      exact of_eq_true (Zy _ 5) x hx
  ·have hlt:k<m.wverts.length:=by omega
   have hp:m.wverts[k]?=some m.wverts[k]:=q9 hlt
   generalize m.wverts[k]=v at hp
   obtain⟨_,hp'⟩:=q8.1 hp
   have hfe:Qj [1,1,1] (V.a [.i .i64 v.x,.i .i64 v.y,.i .i64 v.z]) _=_:=Zw Q60 (V.i .i64) v (wlK m.wverts k)
   have hno:Z2 v (wlK m.wverts k)=none:=by
    rw[fndG_none,Qcf (by omega)]
    intro hm'
    obtain⟨i,hi⟩:=qr hm'
    rw[jc]at hi
    split at hi
    ·rename_i hik
     have hnd:=Bt V3.ltO (Xu m)
     have h1:=Q2x hnd hi
     have h2:=Q2x hnd hp
     omega
    ·simp at hi
   rw[hno,Option.map_none]at hfe
   simp (disch:=omega) [go_sem,Mesh.cs,vsV,tsV,hlt,hp,hp',vcs,hfe,Q3]
   have hsu:=Qnv m.wverts k
   rw[hp]at hsu
   exact⟨k+1,by omega,by omega,rfl,by rw[hsu,qx];rfl,Q9m _ _ _⟩
end
def Mesh.degI (m:Mesh) (i:Int):Bool:=if 0<=i/\i<m.tris.length/\m.check=0 then match m.tris[i.toNat]? with
    | some t=>m.deg t
    | none=>false
 else false
def DegC (P:Program) (f:FuncId):Prop:=∀(m:Mesh) (i:Int),CallIs P f [m.enc,.i .i64 i] (.b (m.degI i))
def Qh (m:Mesh):Mesh × Int × Int × Int:=if m.check=0 then (m.cleanM,((Zp m.deg m.tris).deg:Nat),((Zp m.deg m.tris).twin:Nat),0) else (Zb,0,0,m.check)
def Qbk (r:Mesh × Int × Int × Int):V:=.t [r.1.enc,.i .i64 r.2.1,.i .i64 r.2.2.1,.i .i64 r.2.2.2]
def Qic (P:Program) (f:FuncId):Prop:=∀m:Mesh,CallIs P f [m.enc] (Qbk (Qh m))
theorem Qms (e:Int):Le (.t [.a [.nil,.nil],.i .i64 0,.i .i64 0,.i .i64 e]) (Qbk (Zb,0,0,e)) :=
 .inr ⟨_,_,rfl,rfl,.inr ⟨_,_,rfl,rfl,Le0.nil 3,Le0.nil 3,trivial⟩,Le1.refl _,Le1.refl _,Le1.refl _,trivial⟩
theorem mem_turned {l:List T3} {t:T3}:(t.turned∈l.map T3.turned)↔l.any (T3.twins t)=true:=by
 rw[qp,List.any_eq_true]
 constructor
 ·rintro⟨a,h1,h2⟩;exact⟨a,h1,turned_iff.1 h2.symm⟩
 ·rintro⟨a,h1,h2⟩;exact⟨a,h1,(turned_iff.2 h2).symm⟩
section
variable {P:Program} (hm:P.follows .mixedOrders=true)
include hm
theorem Iq {f fc fv:FuncId} (hf:Qa P f (L2k.c fc fv) L2k.r L2k.n) (hc:Q18 P fc) (hv:Qjz P fv):DegC P f:=by
 intro m i
 refine PureC.is (Q8 hm hf (qh rfl) ?_) rfl
 unfold L2k.c
 simp[go_sem,Mesh.enc,Mesh.cs]
 refine Q4 (hc m i) ?_
 by_cases h:0<=i/\i<m.tris.length/\m.check=0
 ·obtain⟨t,ht⟩:∃t,m.tris[i.toNat]?=some t:=⟨_,q9 (show i.toNat<m.tris.length by omega)⟩
  have e1:m.corners i=.t [(m.v t.a).enc,(m.v t.b).enc,(m.v t.c).enc,.b true]:=by unfold Mesh.corners;rw[if_pos h,ht]
  have e2:m.degI i=m.deg t:=by unfold Mesh.degI;rw[if_pos h,ht]
  rw[e1,e2]
  simp[go_sem,V3.enc,vcs]
  refine Q4 (hv (m.v t.a) (m.v t.b) (m.v t.c)) ?_
  simp[go_sem,L2k.r,Mesh.deg]
 ·have e1:m.corners i=.t [zV3,zV3,zV3,.b false]:=by unfold Mesh.corners;rw[if_neg h]
  have e2:m.degI i=false:=by unfold Mesh.degI;rw[if_neg h]
  rw[e1,e2]
  simp[go_sem,zV3,L2k.r]
theorem Q6z {f fc fl ft fv:FuncId} (hf:Qa P f (L2j.c fc fl ft fv) L2j.r L2j.n) (hc:Ys P fc) (hl:Jj P fl 3) (ht:Qbv P ft) (hv:Qjz P fv):Qic P f:=by
 intro m
 by_cases hz:m.check=0
 case neg =>
  have he:Qh m=(Zb,0,0,m.check):=by simp[Qh,hz]
  rw[he]
  refine CallIs.res (r:=.t [.a [.nil,.nil],.i .i64 0,.i .i64 0,.i .i64 m.check]) ?_ (Qms m.check)
  refine PureC.is (Q8 hm hf (qh rfl) ?_) rfl
  unfold L2j.c
  simp[go_sem,Mesh.enc,Mesh.cs,vsV,tsV]
  refine Q4 (hc m) ?_
  simp[go_sem,hz,L2j.r]
 have he:Qh m=(m.cleanM,(((Zp m.deg m.tris).deg:Nat):Int),(((Zp m.deg m.tris).twin:Nat):Int),0):=by simp[Qh,hz]
 rw[he]
 obtain⟨z1,z2,z3,z4⟩:=Mesh.check_zero.1 hz
 refine PureC.is (Q8 hm hf (qh rfl) ?_) rfl
 unfold L2j.c
 simp[go_sem,Mesh.enc,Mesh.cs,vsV,tsV]
 refine Q4 (hc m) ?_
 simp[go_sem,hz]
 refine Wg (hl (m.verts.map V3.cs) (by simp[qj,vcs,V.isD]) (by simp;omega)) (by simp[go_sem,V.cl,V.cl1,V.cl0]) ?_
 simp[go_sem,vsV]
 refine Z5 [.c 3 0 1 3] (α:=Nat) (λk=>k<=m.tris.length)
  (λk=>⟨[(1,.p 0 1 0 0),(2,.p 1 1 0 0),(7,.p 3 1 0 0),(8,.mp 4),(9,.i .i64 (Zp m.deg (m.tris.take k)).deg),(10,.i .i64 (Zp m.deg (m.tris.take k)).twin),(26,tsV m.tris),(27,.i .i64 m.tris.length),(28,.i .i64 k)],
   [.arr 1 2 [m.cs],.arr 1 2 [[.nil,.nil]],.arr 1 3 (m.verts.map V3.cs),.arr 1 2 [[.own 2 1 0 m.verts.length,.own 5 ((Zp m.deg (m.tris.take k)).out.length+1) 0 (Zp m.deg (m.tris.take k)).out.length]],
    .mp (((Zp m.deg (m.tris.take k)).out.map T3.turned).map (kt T3.enc)),.arr ((Zp m.deg (m.tris.take k)).out.length+1) 3 ((Zp m.deg (m.tris.take k)).out.map T3.cs)]⟩)
  (λk=>m.tris.length-k) 0 (Nat.zero_le _) ?_ ?_
 ·simp[go_sem,Mesh.cs,vsV,tsV,Zp]
  exact λa _=>by simp[vcs,V.sh1,V.sh0]
 ·intro k hk
  by_cases hkl:k=m.tris.length
  ·subst hkl
   rw[qi]
   simp (disch:=omega) [go_sem,Mesh.cs,vsV,tsV,Q3,L2j.r]
   simp[Qbk,Mesh.cleanM,Mesh.enc,Mesh.cs,vsV,tsV]
  ·have hlt:k<m.tris.length:=by omega
   have hp:m.tris[k]?=some m.tris[k]:=q9 hlt
   have htm:m.tris[k]∈m.tris:=List.getElem_mem _
   generalize m.tris[k]=t at hp htm
   obtain⟨_,hp'⟩:=q8.1 hp
   obtain⟨i0,i1,j0,j1,l0,l1⟩:=tok hz htm
   have g1:=Bf i0 i1
   have g2:=Bf j0 j1
   have g3:=Bf l0 l1
   obtain⟨q1,r1⟩:=q8.1 g1
   obtain⟨q2,r2⟩:=q8.1 g2
   obtain⟨q3,r3⟩:=q8.1 g3
   have hst:=Qeq m.deg hp
   have hok:=Qmt m.deg (m.tris.take k)
   have hsum:=hok.sum
   have hkl2:(m.tris.take k).length=k:=by simp;omega
   rw[hkl2]at hsum
   have hdeg:m.deg t=Wx (m.v t.a) (m.v t.b) (m.v t.c):=rfl
   generalize Zp m.deg (m.tris.take k)=s at *
   simp (disch:=omega) [go_sem,Mesh.cs,vsV,tsV,hlt,hp,hp',tcs]
   refine Q4 (ht t) ?_
   simp (disch:=omega) [go_sem,Mesh.cs,vsV,tsV,T3.enc,tcs,vcs,i0,j0,l0,q1,q2,q3,g1,g2,g3,r1,r2,r3]
   refine Qp (hv (m.v t.a) (m.v t.b) (m.v t.c)) ?_
   rw[<- hdeg]
   unfold Cl.step at hst
   have hfe:Qj [1,1,1] (V.a [.i .i64 t.turned.a,.i .i64 t.turned.b,.i .i64 t.turned.c]) ((s.out.map T3.turned).map (kt T3.enc))=_:=Es key_T3 t.turned (s.out.map T3.turned)
   cases hd:m.deg t
   ·rw[hd]at hst
    simp only[Bool.false_eq_true,if_false]at hst
    by_cases hany:s.out.any (T3.twins t)=true
    ·rw[if_pos (mem_turned.2 hany)]at hfe
     rw[if_pos hany]at hst
     rw[List.map_map]at hfe
     simp (disch:=omega) [go_sem,Mesh.cs,vsV,tsV,hfe,Q3]
     refine⟨k+1,by omega,by omega,?_⟩
     rw[hst]
     simp[kt,Zy,T3.enc,tcs,V.cl,V.cl1,V.cl0]
    ·rw[if_neg (λh=>hany (mem_turned.1 h))]at hfe
     rw[if_neg hany]at hst
     rw[List.map_map]at hfe
     simp (disch:=omega) [go_sem,Mesh.cs,vsV,tsV,hfe,Q3]
     refine⟨⟨by omega,by omega⟩,k+1,by omega,by omega,?_⟩
     rw[hst]
     simp[kt,Zy,T3.enc,tcs,V.cl,V.cl1,V.cl0]
   ·rw[hd]at hst
    simp only[if_true]at hst
    simp (disch:=omega) [go_sem,Mesh.cs,vsV,tsV,Q3]
    refine⟨k+1,by omega,by omega,?_⟩
    rw[hst]
    simp[kt,Zy,T3.enc,tcs,V.cl,V.cl1,V.cl0]
end
def V3.inR (v:V3):Bool:=inI v.x && inI v.y && inI v.z
def Qn:List T3:=[⟨0,2,3⟩,⟨0,3,1⟩,⟨4,5,7⟩,⟨4,7,6⟩,⟨0,1,5⟩,⟨0,5,4⟩,⟨2,6,7⟩,⟨2,7,3⟩,⟨0,4,6⟩,⟨0,6,2⟩,⟨1,3,7⟩,⟨1,7,5⟩]
def Qew (p s:V3):V :=
 if s.x<1∨s.y<1∨s.z<1 then Q5w Zb 1
 else if p.valid=true/\(p.add s).valid=true then Q5w ⟨Qi p s,Qn⟩ 0
 else Q5w Zb 8
def BoxC (P:Program) (f:FuncId):Prop:=∀p s:V3,p.inR=true->s.inR=true->CallIs P f [p.enc,s.enc] (Qew p s)
theorem Qck (p:V3):Kn [p]=p.valid:=by simp[Kn]
theorem Q6y {p s:V3} (h1:p.valid=true) (h2:(p.add s).valid=true):s.within 131072=true:=by
 have a1:=V3.valid_iff.1 h1
 have a2:=V3.valid_iff.1 h2
 simp only[V3.add]at a2
 rw[within_iff];omega
section
variable {P:Program} (hm:P.follows .mixedOrders=true)
include hm
theorem Q7a {f ff fn fp fc fl:FuncId} (hf:Qa P f (L1o.c ff fn fp fc fl) L1o.r L1o.n)
  (hfit:Qi9 P ff) (hnear:Qti P fn) (hplus:Qjv P fp) (hcor:Q2p P fc) (hcl:Jj P fl 3):BoxC P f:=by
 intro p s hp hs
 by_cases h1:s.x<1∨s.y<1∨s.z<1
 ·have hb:Qew p s=Q5w Zb 1:=by simp[Qew,h1]
  rw[hb]
  refine CallIs.res (r:=.t [.a [.nil,.nil],.i .i64 1]) ?_ (Q8q 1)
  refine PureC.is (Q8 hm hf (qh rfl) ?_) rfl
  unfold L1o.c
  have h2:min s.x (min s.y s.z)<1:=by omega
  simp[go_sem,V3.enc,V3.cs,Q23,h2,L1o.r]
 have h2:¬ min s.x (min s.y s.z)<1:=by omega
 by_cases hok:p.valid=true/\(p.add s).valid=true
 ·have hb:Qew p s=Q5w ⟨Qi p s,Qn⟩ 0:=by simp[Qew,h1,hok]
  have hw:=Q6y hok.1 hok.2
  rw[hb]
  refine PureC.is (Q8 hm hf (qh rfl) ?_) rfl
  unfold L1o.c
  simp[go_sem,V3.enc,V3.cs,Q23,h2]
  refine Q4 (hfit [p] (by simp)) ?_
  simp[go_sem,Qck,hok.1]
  refine Q4 (hnear s) ?_
  simp[go_sem,hw]
  refine Q4 (hplus p s) ?_
  rw[Qdb hok.1 hw]
  simp[go_sem,V3.enc,V3.cs]
  refine Q4 (hfit [p.add s] (by simp)) ?_
  simp[go_sem,Qck,hok.2]
  refine Q4 (hcor p s hok.1 hw) ?_
  simp[go_sem,V3.cs,Qi]
  refine Wg (hcl _ (by simp[V.isD]) (by simp)) rfl ?_
  simp[go_sem,L1o.r,V3.cs,Q5w,Mesh.enc,Mesh.cs,vsV,tsV,Qn,T3.cs]
 ·have hb:Qew p s=Q5w Zb 8:=by simp[Qew,h1,hok]
  rw[hb]
  refine CallIs.res (r:=.t [.a [.nil,.nil],.i .i64 8]) ?_ (Q8q 8)
  refine PureC.is (Q8 hm hf (qh rfl) ?_) rfl
  unfold L1o.c
  simp[go_sem,V3.enc,V3.cs,Q23,h2]
  refine Q4 (hfit [p] (by simp)) ?_
  cases hpv:p.valid
  ·simp[go_sem,Qck,hpv,L1o.r]
  simp[go_sem,Qck,hpv]
  refine Q4 (hnear s) ?_
  cases hw:s.within 131072
  ·simp[go_sem,L1o.r]
  simp[go_sem]
  refine Q4 (hplus p s) ?_
  rw[Qdb hpv hw]
  simp[go_sem,V3.enc,V3.cs]
  refine Q4 (hfit [p.add s] (by simp)) ?_
  have hav:(p.add s).valid=false:=by rw[Bool.eq_false_iff];exact λh=>hok ⟨hpv,h⟩
  simp[go_sem,Qck,hav,L1o.r]
end
def mixed {α:Type} (l:List α) (g:α->α) (k:Nat):List α:=(l.take k).map g++l.drop k
noncomputable def Mesh.inv (m:Mesh):Bool:=m.shells.any λsh=>decide (Y5 m.verts (Qq m.tris sh)<0)
noncomputable def W9 (m:Mesh):Int :=
 if m.check≠0 then m.check else if m.closed=false then 12 else if Ke m.tris=false then 13 else if m.tris.any m.deg=true then 1 else if m.inv=true then 1 else 0
structure Rep where
 me:Int
 de:Int
 du:Int
 fl:Int
 ho:Int
 iv:Int
 sh:Int
def Rep.zero:Rep:=⟨0,0,0,0,0,0,0⟩
noncomputable def W0 (m:Mesh):Mesh × Rep × Int :=
 if (Qe m).2.2≠0 then (Zb,Rep.zero,(Qe m).2.2) else
 let a:=Qe m
 if (Qh a.1).2.2.2≠0 then (Zb,Rep.zero,(Qh a.1).2.2.2) else
 let b:=Qh a.1
 if (Qe b.1).2.2≠0 then (Zb,Rep.zero,(Qe b.1).2.2) else
 let c:=Qe b.1
 if (Zz c.1).2.2≠0 then (Zb,Rep.zero,(Zz c.1).2.2) else
 let d:=Zz c.1
 if (Zc d.1).2.2≠0 then (Zb,Rep.zero,(Zc d.1).2.2) else
 let g:=Zc d.1
 if (Yu g.1).2.2≠0 then (Zb,Rep.zero,(Yu g.1).2.2) else
 let o:=Yu g.1
 if W9 o.1≠0 then (Zb,Rep.zero,W9 o.1) else
 (o.1,⟨a.2.1+c.2.1,b.2.1,b.2.2.1,d.2.1,g.2.1,o.2.1,(o.1.shells.length:Int)⟩,0)
structure Snd (m:Mesh):Prop where
 z:m.check=0
 clo:m.closed=true
 coh:Coh m.tris
 deg:∀t∈m.tris,m.deg t=false
 vol:∀sh∈m.shells,0<=Y5 m.verts (Qq m.tris sh)
theorem snd_iff {m:Mesh}:W9 m=0↔Snd m:=by
 unfold W9
 constructor
 ·intro h
  by_cases h1:m.check=0
  case neg=>rw[if_pos h1]at h;exact absurd h h1
  rw[if_neg (by simpa using h1)]at h
  by_cases h2:m.closed=false
  case pos=>rw[if_pos h2]at h;simp at h
  rw[if_neg h2]at h
  by_cases h3:Ke m.tris=false
  case pos=>rw[if_pos h3]at h;simp at h
  rw[if_neg h3]at h
  by_cases h4:m.tris.any m.deg=true
  case pos=>rw[if_pos h4]at h;simp at h
  rw[if_neg h4]at h
  by_cases h5:m.inv=true
  case pos=>rw[if_pos h5]at h;simp at h
  refine⟨h1,by simpa using h2,cohB_iff.1 (by simpa using h3),?_,?_⟩
  ·intro t ht
   cases hd:m.deg t with
   | false=>rfl
   | true=>exact absurd (List.any_eq_true.2 ⟨t,ht,hd⟩) h4
  ·intro sh hs
   by_cases hn:Y5 m.verts (Qq m.tris sh)<0
   ·exact absurd (List.any_eq_true.2 ⟨sh,hs,by simpa using hn⟩) h5
   ·omega
 ·intro h
  have h4:m.tris.any m.deg=false:=by
   rw[List.any_eq_false];intro t ht;rw[h.deg t ht];simp
  have h5:m.inv=false:=by
   unfold Mesh.inv
   rw[List.any_eq_false];intro sh hs;have:=h.vol sh hs;simp;omega
  rw[if_neg (by simpa using h.z),if_neg (by rw[h.clo];simp),if_neg (by rw[cohB_iff.2 h.coh];simp),if_neg (by rw[h4];simp),if_neg (by rw[h5];simp)]
structure Wld (m:Mesh):Prop where
 asc:m.verts.Pairwise V3.lt
 used:∀v∈m.verts,∃t∈m.tris,v∈m.cor t
theorem Q2s (m:Mesh):((Qe m).2.2≠0/\m.check≠0)∨(m.check=0/\Qe m=(m.weldM,(m.verts.length:Int)-m.wverts.length,0)):=by
 unfold Qe
 by_cases h:m.check=0
 ·rw[if_pos h];exact .inr ⟨h,rfl⟩
 ·rw[if_neg h];exact .inl ⟨h,h⟩
theorem Qk1 {m:Mesh} (hz:m.check=0):Wld m.weldM where
 asc:=Xu m
 used v hv:=by
  have hv:v∈m.weldM.wverts:=by
   have h:=congrArg Mesh.verts (Qk0 hz)
   show v∈m.weldM.weldM.verts
   rw[h];exact hv
  exact mem_wverts.1 hv
theorem cor_rev (m:Mesh) (t:T3) (v:V3):v∈m.cor t.rev↔v∈m.cor t:=by
 simp only[Mesh.cor,T3.rev,List.mem_cons,List.not_mem_nil,or_false]
 constructor<;>rintro (h | h | h)<;>simp[h]
theorem Wld.fl {m:Mesh} (h:Wld m) {us:List T3} (hf:Fl m.tris us):Wld ⟨m.verts,us⟩ where
 asc:=h.asc
 used v hv:=by
  obtain⟨t,ht,hc⟩:=h.used v hv
  obtain⟨i,hi⟩:=qr ht
  have hl:=(q8.1 hi).1
  rw[Qr hl]at hi
  obtain rfl:=Option.some.inj hi
  refine⟨tAt us i,qb (Qr (by rw[hf.len];exact hl)),?_⟩
  show v∈m.cor _
  rcases hf.tat hl with h1 | h1
  ·rw[h1];exact hc
  ·rw[h1,cor_rev];exact hc
theorem Wld.more {m:Mesh} (h:Wld m) (k:List T3):Wld ⟨m.verts,m.tris++k⟩ where
 asc:=h.asc
 used v hv:=by
  obtain⟨t,ht,hc⟩:=h.used v hv
  exact⟨t,List.mem_append_left _ ht,hc⟩
theorem oriR_cs (m:Mesh):((Zz m).2.2≠0)∨(m.check=0/\∃us,Y8 m.tris=some us/\Zz m=(⟨m.verts,us⟩,(Q6j m.tris us:Int),0)):=by
 by_cases h:m.check=0
 case neg =>
  left
  unfold Zz
  rw[if_pos h];exact h
 cases ho:Y8 m.tris with
 | none=>left;rw[Qpi h ho];simp
 | some us=>exact .inr ⟨h,us,rfl,oriR_ok h ho⟩
theorem Qeg (m:Mesh):((Zc m).2.2≠0)∨(m.loops.2=0/\m.fillM.tris.length<=4096/\Zc m=(m.fillM,(m.loops.1.length:Int),0)):=by
 unfold Zc
 by_cases h:m.loops.2=0
 ·rw[if_pos h]
  by_cases h2:m.fillM.tris.length<=4096
  ·rw[if_pos h2];exact .inr ⟨h,h2,rfl⟩
  ·rw[if_neg h2];left;simp
 ·rw[if_neg h];exact .inl h
theorem Q51 (m:Mesh):((W0 m).2.2≠0/\W0 m=(Zb,Rep.zero,(W0 m).2.2)) ∨
  ((W0 m).2.2=0/\Wld (W0 m).1/\Snd (W0 m).1/\(W0 m).2.1.sh=((W0 m).1.shells.length:Int)):=by
 unfold W0
 simp only[]
 rcases Q2s m with⟨h,hz⟩ | ⟨hz,h1⟩
 ·rw[if_pos h];exact .inl ⟨h,rfl⟩
 rw[h1]
 simp only[ne_eq,not_true_eq_false,if_false]
 by_cases h2:(Qh m.weldM).2.2.2=0
 case neg=>rw[if_pos h2];exact .inl ⟨h2,rfl⟩
 rw[if_neg (by simpa using h2)]
 rcases Q2s (Qh m.weldM).1 with⟨h,hz⟩ | ⟨hz3,h3⟩
 ·rw[if_pos h];exact .inl ⟨h,rfl⟩
 rw[h3]
 simp only[not_true_eq_false,if_false]
 have hw:=Qk1 hz3
 rcases oriR_cs (Qh m.weldM).1.weldM with h | ⟨hz4,us,ho,h4⟩
 ·rw[if_pos h];exact .inl ⟨h,rfl⟩
 rw[h4]
 simp only[not_true_eq_false,if_false]
 have hw4:=hw.fl (by obtain⟨L,hL⟩:=Up (Qh m.weldM).1.weldM.tris;exact(Qaa hL ho).fl)
 generalize (⟨(Qh m.weldM).1.weldM.verts,us⟩:Mesh)=d at *
 rcases Qeg d with h | ⟨hl,hlen,h5⟩
 ·rw[if_pos h];exact .inl ⟨h,rfl⟩
 rw[h5]
 simp only[not_true_eq_false,if_false]
 have hw5:Wld d.fillM:=hw4.more _
 generalize d.fillM=g at *
 rcases Qga g with⟨h,_⟩ | ⟨h6,hok⟩
 ·rw[if_pos h];exact .inl ⟨h,rfl⟩
 rw[h6]
 simp only[not_true_eq_false,if_false]
 have hw6:Wld g.outw:=hw5.fl (Qh9 _ _)
 by_cases h7:W9 g.outw=0
 case neg=>rw[if_pos h7];exact .inl ⟨h7,rfl⟩
 rw[if_neg (by simpa using h7)]
 exact .inr ⟨rfl,hw6,snd_iff.1 h7,rfl⟩
def Q3w (u:V3) (l:List V3):V3:=l.foldl (λa w=>⟨min a.x w.x,min a.y w.y,min a.z w.z⟩) u
def Q3x (u:V3) (l:List V3):V3:=l.foldl (λa w=>⟨max a.x w.x,max a.y w.y,max a.z w.z⟩) u
def bLo:List V3->V3
 | []=>⟨0,0,0⟩
 | v::l=>Q3w v (v::l)
def bHi:List V3->V3
 | []=>⟨0,0,0⟩
 | v::l=>Q3x v (v::l)
theorem Qmx (u:V3) (l:List V3) (w:V3):Q3w u (l++[w])=⟨min (Q3w u l).x w.x,min (Q3w u l).y w.y,min (Q3w u l).z w.z⟩:=by simp[Q3w]
theorem Qmy (u:V3) (l:List V3) (w:V3):Q3x u (l++[w])=⟨max (Q3x u l).x w.x,max (Q3x u l).y w.y,max (Q3x u l).z w.z⟩:=by simp[Q3x]
def mnF (f:V3->Int) (a:Int) (l:List V3):Int:=l.foldl (λa w=>min a (f w)) a
def mxF (f:V3->Int) (a:Int) (l:List V3):Int:=l.foldl (λa w=>max a (f w)) a
theorem Qpx (f:V3->Int):∀(l:List V3) (a:Int),mnF f a l<=a/\(∀w∈l,mnF f a l<=f w)/\(mnF f a l=a∨∃w∈l,mnF f a l=f w)
 | [],a=>⟨Int.le_refl _,by simp,.inl rfl⟩
 | v::l,a=>by
   have e:mnF f a (v::l)=mnF f (min a (f v)) l:=rfl
   obtain⟨h1,h2,h3⟩:=Qpx f l (min a (f v))
   rw[e]
   refine⟨by clear h3;omega,λw hw=>?_,?_⟩
   ·rcases List.mem_cons.1 hw with rfl | hw
    ·clear h3;omega
    ·exact h2 w hw
   ·rcases h3 with h3 | ⟨w,hw,h3⟩
    ·rw[h3]
     by_cases c:a<=f v
     ·exact .inl (by omega)
     ·exact .inr ⟨v,by simp,by omega⟩
    ·exact .inr ⟨w,by simp[hw],h3⟩
theorem Qpw (f:V3->Int):∀(l:List V3) (a:Int),a<=mxF f a l/\(∀w∈l,f w<=mxF f a l)/\(mxF f a l=a∨∃w∈l,mxF f a l=f w)
 | [],a=>⟨Int.le_refl _,by simp,.inl rfl⟩
 | v::l,a=>by
   have e:mxF f a (v::l)=mxF f (max a (f v)) l:=rfl
   obtain⟨h1,h2,h3⟩:=Qpw f l (max a (f v))
   rw[e]
   refine⟨by clear h3;omega,λw hw=>?_,?_⟩
   ·rcases List.mem_cons.1 hw with rfl | hw
    ·clear h3;omega
    ·exact h2 w hw
   ·rcases h3 with h3 | ⟨w,hw,h3⟩
    ·rw[h3]
     by_cases c:f v<=a
     ·exact .inl (by omega)
     ·exact .inr ⟨v,by simp,by omega⟩
    ·exact .inr ⟨w,by simp[hw],h3⟩
theorem Qsk:∀(l:List V3) (u:V3),(Q3w u l).x=mnF V3.x u.x l/\(Q3w u l).y=mnF V3.y u.y l/\(Q3w u l).z=mnF V3.z u.z l
 | [],u=>⟨rfl,rfl,rfl⟩
 | v::l,u=>Qsk l ⟨min u.x v.x,min u.y v.y,min u.z v.z⟩
theorem Qsl:∀(l:List V3) (u:V3),(Q3x u l).x=mxF V3.x u.x l/\(Q3x u l).y=mxF V3.y u.y l/\(Q3x u l).z=mxF V3.z u.z l
 | [],u=>⟨rfl,rfl,rfl⟩
 | v::l,u=>Qsl l ⟨max u.x v.x,max u.y v.y,max u.z v.z⟩
end Go.Abs
