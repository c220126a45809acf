/- Part of the library on which the proof stands: an abstract machine, its values and its soundness against the model; or what functions of the program do to such values. -/
import Derived.Test.YtcdjgldeiaiaoaaGreatGoWeB
import Derived.Test.YtcdjgldeiaiaoaaGreatGoSet
import Derived.Test.YtcdjgldeiaiaoaaGreatGoOriB
import Derived.Test.YtcdjgldeiaiaoaaGreatGoHeap
set_option linter.unusedVariables false
set_option linter.unusedSimpArgs false
set_option maxHeartbeats 4000000
set_option maxRecDepth 20000
namespace Go.Abs
open Go.Sort
def dd (l:List V3):List V3:=l.foldl (λacc v=>if v∈acc then acc else acc++[v]) []
theorem Qdd (l:List V3) (v:V3):dd (l++[v])=if v∈dd l then dd l else dd l++[v]:=by unfold dd;rw[List.foldl_append];rfl
theorem dd_ok (l:List V3):(dd l).Nodup/\(∀v,v∈dd l↔v∈l)/\(dd l).length<=l.length:=by
 refine Wv (p:=λl=>(dd l).Nodup/\(∀v,v∈dd l↔v∈l)/\(dd l).length<=l.length) ?_ ?_ l
 ·simp[dd]
 ·intro E x ih
  rw[Qdd]
  split
  ·rename_i h
   refine⟨ih.1,λv=>?_,by simp;omega⟩
   rw[ih.2.1,qg,qo]
   constructor
   ·exact .inl
   ·rintro (h1 | rfl)
    ·exact h1
    ·exact(ih.2.1 v).1 h
  ·rename_i h
   refine⟨?_,λv=>by rw[qg,ih.2.1,qg],by simp;omega⟩
   rw[List.nodup_append]
   exact⟨ih.1,by simp,λa ha b hb=>by simp at hb;subst hb;rintro rfl;exact h ha⟩
def Qkl (P:Program) (f:FuncId):Prop:=∀m:Mesh,m.check=0->CallIs P f [m.enc] (vsV m.wverts)
theorem Qa3 {m:Mesh} {l:List T3} {k:Nat} {t:T3} (h:l[k]?=some t):m.usedL (l.take (k+1))=m.usedL (l.take k)++m.cor t:=by simp[Mesh.usedL,List.take_add_one,h]
theorem Q4g (m:Mesh) (l:List T3):(m.usedL l).length=3*l.length:=by
 unfold Mesh.usedL
 induction l with
 | nil=>rfl
 | cons t l ih=>simp only[List.flatMap_cons,j3,ih,List.length_cons];simp[Mesh.cor];omega
def Q8 (m:Mesh):Mesh × Int × Int:=if m.check=0 then (m.weldM,(m.verts.length:Int)-m.wverts.length,0) else (Z0,0,m.check)
def Qch (r:Mesh × Int × Int):V:=.t [r.1.enc,.i .i64 r.2.1,.i .i64 r.2.2]
theorem Qgq (n e:Int):Le (.t [.a [.nil,.nil],.i .i64 n,.i .i64 e]) (Qch (Z0,n,e)) :=
 .inr ⟨_,_,rfl,rfl,.inr ⟨_,_,rfl,rfl,Le0.nil 3,Le0.nil 3,trivial⟩,Le1.refl _,Le1.refl _,trivial⟩
def wlK (W:List V3) (k:Nat):List (V3 × Int):=(List.range k).map λ(i:Nat)=>((W[i]?).getD ⟨0,0,0⟩,(i:Int))
theorem Qgp (W:List V3) (k:Nat):wlK W (k+1)=wlK W k++[((W[k]?).getD ⟨0,0,0⟩,(k:Int))]:=by simp[wlK,List.range_succ]
theorem Qcg {W:List V3} {k i:Nat} (h:i<k):(wlK W k)[i]?=some ((W[i]?).getD ⟨0,0,0⟩,(i:Int)):=by simp[wlK,h]
theorem Q7k {W:List V3} {k:Nat} (h:k<=W.length):(wlK W k).map Prod.fst=W.take k:=by
 apply qy
 intro i
 rw[qq,jb]
 by_cases hi:i<k
 ·rw[Qcg hi,if_pos hi,q9 (show i<W.length by omega)];rfl
 ·rw[if_neg hi,qk (by simp[wlK];omega)];rfl
theorem Q5a (W:List V3) (k n:Nat):∀(a b:V) (x:V3) (y:Int),(x,y)∈wlK W k->asG V3.enc (V.i .i64) (x,y)=(a,b)->a.cl n=true/\b.cl n=true:=by
 rintro a b x y _ h
 simp only[asG,Prod.mk.injEq]at h
 obtain⟨rfl,rfl⟩:=h
 exact⟨Yz x n,rfl⟩
def Qki (P:Program) (f:FuncId):Prop:=∀m:Mesh,CallIs P f [m.enc] (Qch (Q8 m))
def jth (t:T3) (j:Nat):Int:=if j=0 then t.a else if j=1 then t.b else t.c
theorem Q4b (m:Mesh) (t:T3) {j:Nat} (h:j<3):(m.cor t).take (j+1)=(m.cor t).take j++[m.v (jth t j)]:=by
 have:j=0∨j=1∨j=2:=by omega
 rcases this with rfl | rfl | rfl<;>rfl
theorem E7 {m:Mesh} {i:Int} (h0:0<=i) (hi:i<m.verts.length):m.verts[i.toNat]?=some (m.v i):=by
 have hlt:i.toNat<m.verts.length:=by omega
 rw[q9 hlt,m.v_get hi hlt]
section
variable {P:Program} (hm:P.follows .mixedOrders=true)
include hm
theorem Q5b {f fs fo:FuncId} (hf:Qb P f (L1w.c fs fo) L1w.r L1w.n) (hs:Q9q P fs 3) (ho:Qlk P fo) (hcal:Zf P fo=true):Qkl P f:=by
 intro m hz
 obtain⟨z1,z2,z3,z4⟩:=Mesh.check_zero.1 hz
 refine PureC.is (Q9 hm hf (qh rfl) ?_) rfl
 unfold L1w.c
 simp[go_sem,Mesh.enc,Mesh.cs,tsV]
 refine Zv [.t 4 3] (α:=Nat) (λk=>k<=m.tris.length)
  (λk=>⟨[(1,.p 0 1 0 0),(3,.mp 1),(4,.own 2 ((dd (m.usedL (m.tris.take k))).length+1) 0 (dd (m.usedL (m.tris.take k))).length),(12,tsV m.tris),(13,.i .i64 m.tris.length),(14,.i .i64 k)],
   [.arr 1 2 [m.cs],.mp ((dd (m.usedL (m.tris.take k))).map (kt V3.enc)),.arr ((dd (m.usedL (m.tris.take k))).length+1) 3 ((dd (m.usedL (m.tris.take k))).map V3.cs)]⟩)
  (λk=>m.tris.length-k) 0 (Nat.zero_le _) ?_ ?_
 ·simp[go_sem,Mesh.cs,vsV,tsV,Mesh.usedL,dd]
 ·intro k hk
  by_cases hkl:k=m.tris.length
  ·subst hkl
   rw[qi]
   obtain⟨u1,u2,u3⟩:=dd_ok (m.usedL m.tris)
   rw[Q4g]at u3
   obtain⟨ys,hperm,hup,hcall⟩:=hs V3.ints (λ_=>rfl) Qbp swoV fo hcal (λa b=>ho a b) (dd (m.usedL m.tris)) (by omega)
   have hys:ys=m.wverts:=by
    rw[Q7a V3.ltO hperm u1 (hup.imp (by intro a b h;rw[ltV]at h;simpa using h))]
    refine Jz V3.ltO (Il V3.ltO _) (Il V3.ltO _) λv=>?_
    rw[I6,u2]
    exact(I6 (lt:=V3.lt)).symm
   have hl2:m.wverts.length=(dd (m.usedL m.tris)).length:=by rw[<- hys];exact hperm.length_eq
   have hy2:ys.map (λx=>x.ints.map (V.i .i64))=m.wverts.map V3.cs:=by rw[hys];rfl
   generalize dd (m.usedL m.tris)=U at *
   simp[go_sem,Mesh.cs,tsV]
   refine K6 (hcall _ 2 _ rfl) ?_
   rw[hy2]
   have ht:List.take U.length (m.wverts.map V3.cs)=m.wverts.map V3.cs:=qe (by simp[hl2])
   simp[go_sem,L1w.r,vsV,Jn,hl2,ht]
  ·have hlt:k<m.tris.length:=by omega
   have hp:m.tris[k]?=some m.tris[k]:=q9 hlt
   have htm:m.tris[k]∈m.tris:=List.getElem_mem _
   generalize m.tris[k]=t at hp htm
   obtain⟨_,hp'⟩:=q8.1 hp
   have htk:=tok hz htm
   have hsucc:=Qa3 (m:=m) hp
   simp[go_sem,Mesh.cs,tsV,hlt,hp,hp',tcs]
   have hul:=Q4g m (m.tris.take k)
   have hkl2:(m.tris.take k).length<=k:=by simp;omega
   generalize hA:m.usedL (m.tris.take k)=A at *
   refine Ql (α:=Nat) (λj=>j<=3)
    (λj=>⟨[(1,.p 0 1 0 0),(3,.mp 1),(4,.own 2 ((dd (A++(m.cor t).take j)).length+1) 0 (dd (A++(m.cor t).take j)).length),(12,tsV m.tris),(13,.i .i64 m.tris.length),(14,.i .i64 k),(24,t.enc),(25,.i .i64 j)],
     [.arr 1 2 [m.cs],.mp ((dd (A++(m.cor t).take j)).map (kt V3.enc)),.arr ((dd (A++(m.cor t).take j)).length+1) 3 ((dd (A++(m.cor t).take j)).map V3.cs)]⟩)
    (λj=>3-j) 0 (by omega) ?_ ?_
   ·simp[go_sem,Mesh.cs,vsV,tsV,T3.enc,tcs]
    exact λa _=>⟨Yz a 3,rfl⟩
   ·intro j hj
    by_cases hj3:j=3
    ·subst hj3
     have h3:(m.cor t).take 3=m.cor t:=rfl
     rw[h3,<- hsucc]
     simp (disch:=omega) [go_sem,Mesh.cs,tsV,vsV,Q3]
     exact⟨k+1,by omega,by omega,⟨rfl,rfl⟩,⟨rfl,λa _=>⟨Yz a 3,rfl⟩⟩,rfl,rfl⟩
    ·have hj3':j<3:=by omega
     have hdd:=Qdd (A++(m.cor t).take j) (m.v (jth t j))
     rw[j2,<- Q4b m t hj3']at hdd
     obtain⟨u1,u2,u3⟩:=dd_ok (A++(m.cor t).take j)
     have hdl:(A++(m.cor t).take j).length<=3*k+3:=by simp[Mesh.cor];omega
     generalize dd (A++(m.cor t).take j)=U at *
     have hg:=E7 (m:=m) (i:=jth t j) (by unfold jth;split<;>(try split)<;>omega) (by unfold jth;split<;>(try split)<;>omega)
     have hr:0<=jth t j/\jth t j<m.verts.length:=by unfold jth;split<;>(try split)<;>omega
     generalize hi:jth t j=i at *
     obtain⟨hi0,hi1⟩:=hr
     generalize hv:m.v i=v at *
     have hfe:Qh [1,1,1] (V.a [.i .i64 v.x,.i .i64 v.y,.i .i64 v.z]) (U.map (kt V3.enc))=_:=U2 Q2r v U
     obtain⟨hgl,hg'⟩:=q8.1 hg
     have:j=0∨j=1∨j=2:=by omega
     by_cases hmem:v∈U
     ·rw[if_pos hmem]at hfe hdd
      rcases this with rfl | rfl | rfl
      ·have hi':t.a=i:=hi
       simp (disch:=omega) [go_sem,Mesh.cs,vsV,tsV,T3.enc,tcs,hfe,hi',hg,hg',hgl,hi0,vcs,Q3]
       have hdd:dd (A++List.take 1 (m.cor t))=U:=hdd
       exact⟨1,by omega,by omega,⟨by rw[hdd],rfl⟩,⟨by rw[hdd],λa _=>⟨Yz a 3,rfl⟩⟩,by rw[hdd],by rw[hdd]⟩
      ·have hi':t.b=i:=hi
       simp (disch:=omega) [go_sem,Mesh.cs,vsV,tsV,T3.enc,tcs,hfe,hi',hg,hg',hgl,hi0,vcs,Q3]
       have hdd:dd (A++List.take 2 (m.cor t))=U:=hdd
       exact⟨2,by omega,by omega,⟨by rw[hdd],rfl⟩,⟨by rw[hdd],λa _=>⟨Yz a 3,rfl⟩⟩,by rw[hdd],by rw[hdd]⟩
      ·have hi':t.c=i:=hi
       simp (disch:=omega) [go_sem,Mesh.cs,vsV,tsV,T3.enc,tcs,hfe,hi',hg,hg',hgl,hi0,vcs,Q3]
       have hdd:dd (A++List.take 3 (m.cor t))=U:=hdd
       exact⟨3,by omega,by omega,⟨by rw[hdd],rfl⟩,⟨by rw[hdd],λa _=>⟨Yz a 3,rfl⟩⟩,by rw[hdd],by rw[hdd]⟩
     ·rw[if_neg hmem]at hfe hdd
      rcases this with rfl | rfl | rfl
      ·have hi':t.a=i:=hi
       simp (disch:=omega) [go_sem,Mesh.cs,vsV,tsV,T3.enc,tcs,hfe,hi',hg,hg',hgl,hi0,vcs,Q3]
       have hdd:dd (A++List.take 1 (m.cor t))=U++[v]:=hdd
       exact⟨⟨by omega,by omega⟩,1,by omega,by omega,⟨by rw[hdd];simp,rfl⟩,⟨by rw[hdd,qx];rfl,λa _=>⟨Yz a 3,rfl⟩⟩,by rw[hdd];simp,by rw[hdd,qx];rfl⟩
      ·have hi':t.b=i:=hi
       simp (disch:=omega) [go_sem,Mesh.cs,vsV,tsV,T3.enc,tcs,hfe,hi',hg,hg',hgl,hi0,vcs,Q3]
       have hdd:dd (A++List.take 2 (m.cor t))=U++[v]:=hdd
       exact⟨⟨by omega,by omega⟩,2,by omega,by omega,⟨by rw[hdd];simp,rfl⟩,⟨by rw[hdd,qx];rfl,λa _=>⟨Yz a 3,rfl⟩⟩,by rw[hdd];simp,by rw[hdd,qx];rfl⟩
      ·have hi':t.c=i:=hi
       simp (disch:=omega) [go_sem,Mesh.cs,vsV,tsV,T3.enc,tcs,hfe,hi',hg,hg',hgl,hi0,vcs,Q3]
       have hdd:dd (A++List.take 3 (m.cor t))=U++[v]:=hdd
       exact⟨⟨by omega,by omega⟩,3,by omega,by omega,⟨by rw[hdd];simp,rfl⟩,⟨by rw[hdd,qx];rfl,λa _=>⟨Yz a 3,rfl⟩⟩,by rw[hdd];simp,by rw[hdd,qx];rfl⟩
omit hm in
theorem Qa0 {m:Mesh} {v:V3} (h:v∈m.wverts):Zb v (wlK m.wverts m.wverts.length)=some ((Kf m.wverts v).toNat,Kf m.wverts v):=by
 have hr:=Qb9 h
 have hg:=Q8q h
 have hn:((wlK m.wverts m.wverts.length).map Prod.fst).Nodup:=by
  rw[Q7k (Nat.le_refl _),qi]
  exact Jk V3.ltO (Y5 m)
 refine We hn ?_
 rw[Qcg (by omega),hg,Int.toNat_of_nonneg hr.1];rfl
theorem Q5c {f fc fu:FuncId} (hf:Qb P f (L1t.c fc fu) L1t.r L1t.n) (hc:Y3 P fc) (hu:Qkl P fu):Qki P f:=by
 intro m
 by_cases hz:m.check=0
 case neg =>
  have he:Q8 m=(Z0,0,m.check):=by simp[Q8,hz]
  rw[he]
  refine CallIs.res (r:=.t [.a [.nil,.nil],.i .i64 0,.i .i64 m.check]) ?_ (Qgq 0 m.check)
  refine PureC.is (Q9 hm hf (qh rfl) ?_) rfl
  unfold L1t.c
  simp[go_sem,Mesh.enc,Mesh.cs,vsV,tsV]
  refine Q6 (hc m) ?_
  simp[go_sem,hz,L1t.r]
 have he:Q8 m=(m.weldM,(m.verts.length:Int)-m.wverts.length,0):=by simp[Q8,hz]
 rw[he]
 obtain⟨z1,z2,z3,z4⟩:=Mesh.check_zero.1 hz
 have hwl:=Q14 hz
 refine PureC.is (Q9 hm hf (qh rfl) ?_) rfl
 unfold L1t.c
 simp[go_sem,Mesh.enc,Mesh.cs,vsV,tsV]
 refine Q6 (hc m) ?_
 simp[go_sem,hz]
 refine Q6 (hu m hz) ?_
 simp[go_sem,vsV]
 refine Ql (α:=Nat) (λk=>k<=m.wverts.length)
  (λk=>⟨[(1,.p 0 1 0 0),(2,.p 1 1 0 0),(6,.p 2 1 0 0),(7,.mp 3),(26,vsV m.wverts),(27,.i .i64 m.wverts.length),(28,.i .i64 k)],
   [.arr 1 2 [m.cs],.arr 1 2 [[.nil,.nil]],.arr 1 2 [[vsV m.wverts,.nil]],.mp ((wlK m.wverts k).map (asG V3.enc (V.i .i64)))]⟩)
  (λk=>m.wverts.length-k) 0 (Nat.zero_le _) ?_ ?_
 ·simp[go_sem,Mesh.cs,vsV,tsV]
  exact⟨rfl,Q5a _ _ _⟩
 ·intro k hk
  by_cases hkl:k=m.wverts.length
  ·subst hkl
   simp[go_sem,Mesh.cs,vsV,tsV]
   refine Zv [.c 2 0 1 3] (α:=Nat) (λk=>k<=m.tris.length)
    (λk=>⟨[(1,.p 0 1 0 0),(2,.p 1 1 0 0),(6,.p 2 1 0 0),(7,.mp 3),(38,tsV m.tris),(39,.i .i64 m.tris.length),(40,.i .i64 k)],
     [.arr 1 2 [m.cs],.arr 1 2 [[.nil,.nil]],.arr 1 2 [[vsV m.wverts,.own 4 (k+1) 0 k]],.mp ((wlK m.wverts m.wverts.length).map (asG V3.enc (V.i .i64))),.arr (k+1) 3 (((m.tris.take k).map (K8 m m.wverts)).map T3.cs)]⟩)
    (λk=>m.tris.length-k) 0 (Nat.zero_le _) ?_ ?_
   ·simp[go_sem,Mesh.cs,vsV,tsV]
    exact Q5a _ _ _
   ·intro k hk
    by_cases hkl:k=m.tris.length
    ·subst hkl
     simp (disch:=omega) [go_sem,Mesh.cs,vsV,tsV,Q3,L1t.r]
     simp[Qch,Mesh.weldM,Mesh.enc,Mesh.cs,vsV,tsV]
    ·have hlt:k<m.tris.length:=by omega
     have hp:m.tris[k]?=some m.tris[k]:=q9 hlt
     have htm:m.tris[k]∈m.tris:=List.getElem_mem _
     generalize m.tris[k]=t at hp htm
     obtain⟨_,hp'⟩:=q8.1 hp
     obtain⟨i0,i1,j0,j1,l0,l1⟩:=tok hz htm
     obtain⟨c1,c2,c3⟩:=Q6y htm
     have g1:=E7 i0 i1
     have g2:=E7 j0 j1
     have g3:=E7 l0 l1
     obtain⟨q1,r1⟩:=q8.1 g1
     obtain⟨q2,r2⟩:=q8.1 g2
     obtain⟨q3,r3⟩:=q8.1 g3
     have f1:Qh [1,1,1] (V.a [.i .i64 (m.v t.a).x,.i .i64 (m.v t.a).y,.i .i64 (m.v t.a).z]) ((wlK m.wverts m.wverts.length).map (asG V3.enc (V.i .i64)))=_:=X3 Q2r (V.i .i64) (m.v t.a) _
     have f2:Qh [1,1,1] (V.a [.i .i64 (m.v t.b).x,.i .i64 (m.v t.b).y,.i .i64 (m.v t.b).z]) ((wlK m.wverts m.wverts.length).map (asG V3.enc (V.i .i64)))=_:=X3 Q2r (V.i .i64) (m.v t.b) _
     have f3:Qh [1,1,1] (V.a [.i .i64 (m.v t.c).x,.i .i64 (m.v t.c).y,.i .i64 (m.v t.c).z]) ((wlK m.wverts m.wverts.length).map (asG V3.enc (V.i .i64)))=_:=X3 Q2r (V.i .i64) (m.v t.c) _
     rw[Qa0 c1]at f1
     rw[Qa0 c2]at f2
     rw[Qa0 c3]at f3
     simp only[Option.map_some]at f1 f2 f3
     have hMc:=Q5a m.wverts m.wverts.length 5
     have hwt:K8 m m.wverts t=⟨Kf m.wverts (m.v t.a),Kf m.wverts (m.v t.b),Kf m.wverts (m.v t.c)⟩:=rfl
     generalize m.v t.a=va at *
     generalize m.v t.b=vb at *
     generalize m.v t.c=vc at *
     have hsu:((m.tris.take (k+1)).map (K8 m m.wverts)).map T3.cs=((m.tris.take k).map (K8 m m.wverts)).map T3.cs++[(K8 m m.wverts t).cs]:=by rw[List.take_add_one,hp];simp
     have htk:List.take k (((m.tris.take k).map (K8 m m.wverts)).map T3.cs)=((m.tris.take k).map (K8 m m.wverts)).map T3.cs:=qe (by simp;omega)
     have hkk:k<=(m.tris.take k).length:=by simp;omega
     simp (disch:=omega) [go_sem,Mesh.cs,vsV,tsV,hlt,hp,hp',tcs,vcs,i0,j0,l0,q1,q2,q3,g1,g2,g3,r1,r2,r3,f1,f2,f3,Q3]
     refine⟨⟨by omega,by omega⟩,k+1,by omega,by omega,rfl,rfl,hMc,⟨rfl,?_⟩,?_⟩
     ·rw[List.take_take,Nat.min_self,List.take_add_one,qq,hp]
      simp[hwt,tcs]
     ·intro el hel x hx
      obtain⟨s,_,rfl⟩:=qp.1 (jg hel)
      exact of_eq_true (Zp _ 5) x hx
  ·have hlt:k<m.wverts.length:=by omega
   have hp:m.wverts[k]?=some m.wverts[k]:=q9 hlt
   generalize m.wverts[k]=v at hp
   obtain⟨_,hp'⟩:=q8.1 hp
   have hfe:Qh [1,1,1] (V.a [.i .i64 v.x,.i .i64 v.y,.i .i64 v.z]) _=_:=X3 Q2r (V.i .i64) v (wlK m.wverts k)
   have hno:Zb v (wlK m.wverts k)=none:=by
    rw[fndG_none,Q7k (by omega)]
    intro hm'
    obtain⟨i,hi⟩:=qr hm'
    rw[jb]at hi
    split at hi
    ·rename_i hik
     have hnd:=Jk V3.ltO (Y5 m)
     have h1:=Jo hnd hi
     have h2:=Jo hnd hp
     omega
    ·simp at hi
   rw[hno,Option.map_none]at hfe
   simp (disch:=omega) [go_sem,Mesh.cs,vsV,tsV,hlt,hp,hp',vcs,hfe,Q3]
   have hsu:=Qgp m.wverts k
   rw[hp]at hsu
   exact⟨k+1,by omega,by omega,rfl,by rw[hsu,qx];rfl,Q5a _ _ _⟩
end
def Mesh.degI (m:Mesh) (i:Int):Bool:=if 0<=i/\i<m.tris.length/\m.check=0 then match m.tris[i.toNat]? with
    | some t=>m.deg t
    | none=>false
 else false
def DegC (P:Program) (f:FuncId):Prop:=∀(m:Mesh) (i:Int),CallIs P f [m.enc,.i .i64 i] (.b (m.degI i))
def Qc (m:Mesh):Mesh × Int × Int × Int:=if m.check=0 then (m.cleanM,((Z6 m.deg m.tris).deg:Nat),((Z6 m.deg m.tris).twin:Nat),0) else (Z0,0,0,m.check)
def Q70 (r:Mesh × Int × Int × Int):V:=.t [r.1.enc,.i .i64 r.2.1,.i .i64 r.2.2.1,.i .i64 r.2.2.2]
def Qcd (P:Program) (f:FuncId):Prop:=∀m:Mesh,CallIs P f [m.enc] (Q70 (Qc m))
theorem Qfr (e:Int):Le (.t [.a [.nil,.nil],.i .i64 0,.i .i64 0,.i .i64 e]) (Q70 (Z0,0,0,e)) :=
 .inr ⟨_,_,rfl,rfl,.inr ⟨_,_,rfl,rfl,Le0.nil 3,Le0.nil 3,trivial⟩,Le1.refl _,Le1.refl _,Le1.refl _,trivial⟩
theorem mem_turned {l:List T3} {t:T3}:(t.turned∈l.map T3.turned)↔l.any (T3.twins t)=true:=by
 rw[qp,List.any_eq_true]
 constructor
 ·rintro⟨a,h1,h2⟩;exact⟨a,h1,turned_iff.1 h2.symm⟩
 ·rintro⟨a,h1,h2⟩;exact⟨a,h1,(turned_iff.2 h2).symm⟩
section
variable {P:Program} (hm:P.follows .mixedOrders=true)
include hm
theorem Ui {f fc fv:FuncId} (hf:Qb P f (L1s.c fc fv) L1s.r L1s.n) (hc:Q3j P fc) (hv:Qdq P fv):DegC P f:=by
 intro m i
 refine PureC.is (Q9 hm hf (qh rfl) ?_) rfl
 unfold L1s.c
 simp[go_sem,Mesh.enc,Mesh.cs]
 refine Q6 (hc m i) ?_
 by_cases h:0<=i/\i<m.tris.length/\m.check=0
 ·obtain⟨t,ht⟩:∃t,m.tris[i.toNat]?=some t:=⟨_,q9 (show i.toNat<m.tris.length by omega)⟩
  have e1:m.corners i=.t [(m.v t.a).enc,(m.v t.b).enc,(m.v t.c).enc,.b true]:=by unfold Mesh.corners;rw[if_pos h,ht]
  have e2:m.degI i=m.deg t:=by unfold Mesh.degI;rw[if_pos h,ht]
  rw[e1,e2]
  simp[go_sem,V3.enc,vcs]
  refine Q6 (hv (m.v t.a) (m.v t.b) (m.v t.c)) ?_
  simp[go_sem,L1s.r,Mesh.deg]
 ·have e1:m.corners i=.t [zV3,zV3,zV3,.b false]:=by unfold Mesh.corners;rw[if_neg h]
  have e2:m.degI i=false:=by unfold Mesh.degI;rw[if_neg h]
  rw[e1,e2]
  simp[go_sem,zV3,L1s.r]
theorem Q3l {f fc fl ft fv:FuncId} (hf:Qb P f (L1r.c fc fl ft fv) L1r.r L1r.n) (hc:Y3 P fc) (hl:Xt P fl 3) (ht:Q7b P ft) (hv:Qdq P fv):Qcd P f:=by
 intro m
 by_cases hz:m.check=0
 case neg =>
  have he:Qc m=(Z0,0,0,m.check):=by simp[Qc,hz]
  rw[he]
  refine CallIs.res (r:=.t [.a [.nil,.nil],.i .i64 0,.i .i64 0,.i .i64 m.check]) ?_ (Qfr m.check)
  refine PureC.is (Q9 hm hf (qh rfl) ?_) rfl
  unfold L1r.c
  simp[go_sem,Mesh.enc,Mesh.cs,vsV,tsV]
  refine Q6 (hc m) ?_
  simp[go_sem,hz,L1r.r]
 have he:Qc m=(m.cleanM,(((Z6 m.deg m.tris).deg:Nat):Int),(((Z6 m.deg m.tris).twin:Nat):Int),0):=by simp[Qc,hz]
 rw[he]
 obtain⟨z1,z2,z3,z4⟩:=Mesh.check_zero.1 hz
 refine PureC.is (Q9 hm hf (qh rfl) ?_) rfl
 unfold L1r.c
 simp[go_sem,Mesh.enc,Mesh.cs,vsV,tsV]
 refine Q6 (hc m) ?_
 simp[go_sem,hz]
 refine K7 (hl (m.verts.map V3.cs) (by simp[qj,vcs,V.isD]) (by simp;omega)) (by simp[go_sem,V.cl,V.cl1,V.cl0]) ?_
 simp[go_sem,vsV]
 refine Zv [.c 3 0 1 3] (α:=Nat) (λk=>k<=m.tris.length)
  (λk=>⟨[(1,.p 0 1 0 0),(2,.p 1 1 0 0),(7,.p 3 1 0 0),(8,.mp 4),(9,.i .i64 (Z6 m.deg (m.tris.take k)).deg),(10,.i .i64 (Z6 m.deg (m.tris.take k)).twin),(26,tsV m.tris),(27,.i .i64 m.tris.length),(28,.i .i64 k)],
   [.arr 1 2 [m.cs],.arr 1 2 [[.nil,.nil]],.arr 1 3 (m.verts.map V3.cs),.arr 1 2 [[.own 2 1 0 m.verts.length,.own 5 ((Z6 m.deg (m.tris.take k)).out.length+1) 0 (Z6 m.deg (m.tris.take k)).out.length]],
    .mp (((Z6 m.deg (m.tris.take k)).out.map T3.turned).map (kt T3.enc)),.arr ((Z6 m.deg (m.tris.take k)).out.length+1) 3 ((Z6 m.deg (m.tris.take k)).out.map T3.cs)]⟩)
  (λk=>m.tris.length-k) 0 (Nat.zero_le _) ?_ ?_
 ·simp[go_sem,Mesh.cs,vsV,tsV,Z6]
  exact λa _=>by simp[vcs,V.sh1,V.sh0]
 ·intro k hk
  by_cases hkl:k=m.tris.length
  ·subst hkl
   rw[qi]
   simp (disch:=omega) [go_sem,Mesh.cs,vsV,tsV,Q3,L1r.r]
   simp[Q70,Mesh.cleanM,Mesh.enc,Mesh.cs,vsV,tsV]
  ·have hlt:k<m.tris.length:=by omega
   have hp:m.tris[k]?=some m.tris[k]:=q9 hlt
   have htm:m.tris[k]∈m.tris:=List.getElem_mem _
   generalize m.tris[k]=t at hp htm
   obtain⟨_,hp'⟩:=q8.1 hp
   obtain⟨i0,i1,j0,j1,l0,l1⟩:=tok hz htm
   have g1:=E7 i0 i1
   have g2:=E7 j0 j1
   have g3:=E7 l0 l1
   obtain⟨q1,r1⟩:=q8.1 g1
   obtain⟨q2,r2⟩:=q8.1 g2
   obtain⟨q3,r3⟩:=q8.1 g3
   have hst:=Q08 m.deg hp
   have hok:=Qfs m.deg (m.tris.take k)
   have hsum:=hok.sum
   have hkl2:(m.tris.take k).length=k:=by simp;omega
   rw[hkl2]at hsum
   have hdeg:m.deg t=Kk (m.v t.a) (m.v t.b) (m.v t.c):=rfl
   generalize Z6 m.deg (m.tris.take k)=s at *
   simp (disch:=omega) [go_sem,Mesh.cs,vsV,tsV,hlt,hp,hp',tcs]
   refine Q6 (ht t) ?_
   simp (disch:=omega) [go_sem,Mesh.cs,vsV,tsV,T3.enc,tcs,vcs,i0,j0,l0,q1,q2,q3,g1,g2,g3,r1,r2,r3]
   refine Qp (hv (m.v t.a) (m.v t.b) (m.v t.c)) ?_
   rw[<- hdeg]
   unfold Cl.step at hst
   have hfe:Qh [1,1,1] (V.a [.i .i64 t.turned.a,.i .i64 t.turned.b,.i .i64 t.turned.c]) ((s.out.map T3.turned).map (kt T3.enc))=_:=U2 key_T3 t.turned (s.out.map T3.turned)
   cases hd:m.deg t
   ·rw[hd]at hst
    simp only[Bool.false_eq_true,if_false]at hst
    by_cases hany:s.out.any (T3.twins t)=true
    ·rw[if_pos (mem_turned.2 hany)]at hfe
     rw[if_pos hany]at hst
     rw[List.map_map]at hfe
     simp (disch:=omega) [go_sem,Mesh.cs,vsV,tsV,hfe,Q3]
     refine⟨k+1,by omega,by omega,?_⟩
     rw[hst]
     simp[kt,Zp,T3.enc,tcs,V.cl,V.cl1,V.cl0]
    ·rw[if_neg (λh=>hany (mem_turned.1 h))]at hfe
     rw[if_neg hany]at hst
     rw[List.map_map]at hfe
     simp (disch:=omega) [go_sem,Mesh.cs,vsV,tsV,hfe,Q3]
     refine⟨⟨by omega,by omega⟩,k+1,by omega,by omega,?_⟩
     rw[hst]
     simp[kt,Zp,T3.enc,tcs,V.cl,V.cl1,V.cl0]
   ·rw[hd]at hst
    simp only[if_true]at hst
    simp (disch:=omega) [go_sem,Mesh.cs,vsV,tsV,Q3]
    refine⟨k+1,by omega,by omega,?_⟩
    rw[hst]
    simp[kt,Zp,T3.enc,tcs,V.cl,V.cl1,V.cl0]
end
def V3.inR (v:V3):Bool:=inI v.x && inI v.y && inI v.z
def boxTris:List T3:=[⟨0,2,3⟩,⟨0,3,1⟩,⟨4,5,7⟩,⟨4,7,6⟩,⟨0,1,5⟩,⟨0,5,4⟩,⟨2,6,7⟩,⟨2,7,3⟩,⟨0,4,6⟩,⟨0,6,2⟩,⟨1,3,7⟩,⟨1,7,5⟩]
def Q9j (p s:V3):V :=
 if s.x<1∨s.y<1∨s.z<1 then Q0r Z0 1
 else if p.valid=true/\(p.add s).valid=true then Q0r ⟨Qk p s,boxTris⟩ 0
 else Q0r Z0 8
def BoxC (P:Program) (f:FuncId):Prop:=∀p s:V3,p.inR=true->s.inR=true->CallIs P f [p.enc,s.enc] (Q9j p s)
theorem Q7o (p:V3):Jq [p]=p.valid:=by simp[Jq]
theorem Q3k {p s:V3} (h1:p.valid=true) (h2:(p.add s).valid=true):s.within 131072=true:=by
 have a1:=V3.valid_iff.1 h1
 have a2:=V3.valid_iff.1 h2
 simp only[V3.add]at a2
 rw[within_iff];omega
section
variable {P:Program} (hm:P.follows .mixedOrders=true)
include hm
theorem Q3t {f ff fn fp fc fl:FuncId} (hf:Qb P f (L10.c ff fn fp fc fl) L10.r L10.n)
  (hfit:Qcb P ff) (hnear:Ql3 P fn) (hplus:Qdn P fp) (hcor:Bz P fc) (hcl:Xt P fl 3):BoxC P f:=by
 intro p s hp hs
 by_cases h1:s.x<1∨s.y<1∨s.z<1
 ·have hb:Q9j p s=Q0r Z0 1:=by simp[Q9j,h1]
  rw[hb]
  refine CallIs.res (r:=.t [.a [.nil,.nil],.i .i64 1]) ?_ (Q4n 1)
  refine PureC.is (Q9 hm hf (qh rfl) ?_) rfl
  unfold L10.c
  have h2:min s.x (min s.y s.z)<1:=by omega
  simp[go_sem,V3.enc,V3.cs,W8,h2,L10.r]
 have h2:¬ min s.x (min s.y s.z)<1:=by omega
 by_cases hok:p.valid=true/\(p.add s).valid=true
 ·have hb:Q9j p s=Q0r ⟨Qk p s,boxTris⟩ 0:=by simp[Q9j,h1,hok]
  have hw:=Q3k hok.1 hok.2
  rw[hb]
  refine PureC.is (Q9 hm hf (qh rfl) ?_) rfl
  unfold L10.c
  simp[go_sem,V3.enc,V3.cs,W8,h2]
  refine Q6 (hfit [p] (by simp)) ?_
  simp[go_sem,Q7o,hok.1]
  refine Q6 (hnear s) ?_
  simp[go_sem,hw]
  refine Q6 (hplus p s) ?_
  rw[Q87 hok.1 hw]
  simp[go_sem,V3.enc,V3.cs]
  refine Q6 (hfit [p.add s] (by simp)) ?_
  simp[go_sem,Q7o,hok.2]
  refine Q6 (hcor p s hok.1 hw) ?_
  simp[go_sem,V3.cs,Qk]
  refine K7 (hcl _ (by simp[V.isD]) (by simp)) rfl ?_
  simp[go_sem,L10.r,V3.cs,Q0r,Mesh.enc,Mesh.cs,vsV,tsV,boxTris,T3.cs]
 ·have hb:Q9j p s=Q0r Z0 8:=by simp[Q9j,h1,hok]
  rw[hb]
  refine CallIs.res (r:=.t [.a [.nil,.nil],.i .i64 8]) ?_ (Q4n 8)
  refine PureC.is (Q9 hm hf (qh rfl) ?_) rfl
  unfold L10.c
  simp[go_sem,V3.enc,V3.cs,W8,h2]
  refine Q6 (hfit [p] (by simp)) ?_
  cases hpv:p.valid
  ·simp[go_sem,Q7o,hpv,L10.r]
  simp[go_sem,Q7o,hpv]
  refine Q6 (hnear s) ?_
  cases hw:s.within 131072
  ·simp[go_sem,L10.r]
  simp[go_sem]
  refine Q6 (hplus p s) ?_
  rw[Q87 hpv hw]
  simp[go_sem,V3.enc,V3.cs]
  refine Q6 (hfit [p.add s] (by simp)) ?_
  have hav:(p.add s).valid=false:=by rw[Bool.eq_false_iff];exact λh=>hok ⟨hpv,h⟩
  simp[go_sem,Q7o,hav,L10.r]
end
theorem v3_ofR {e:List V} (h:okL schV e):∃v:V3,e=v.cs/\v.inR=true:=by
 simp only[schV,okL,Sch.ok]at h
 obtain⟨v1,r1,rfl,⟨x,rfl,hx⟩,v2,r2,rfl,⟨y,rfl,hy⟩,v3,r3,rfl,⟨z,rfl,hz⟩,rfl⟩:=h
 refine⟨⟨x,y,z⟩,rfl,?_⟩
 simp only[V3.inR,Bool.and_eq_true,inI_iff]
 exact⟨⟨hx,hy⟩,hz⟩
theorem par_vr {ps:List (Bool × List Sch)} {us:List V} (h:Xh ((true,schV)::ps) us):∃(v:V3) (r:List V),us=v.enc::r/\v.inR=true/\Xh ps r:=by
 simp only[Xh,Q8a]at h
 obtain⟨v,r,rfl,⟨cs,rfl,hc⟩,hr⟩:=h
 obtain⟨p,rfl,hp⟩:=v3_ofR hc
 exact⟨p,r,rfl,hp,hr⟩
theorem Qaw {a b:Int} {k m:Nat} (ha:-(k:Int)<=a/\a<=k) (hb:-(m:Int)<=b/\b<=m):-((k*m:Nat):Int)<=a*b/\a*b<=(k*m:Nat):=by
 have h1:a.natAbs<=k:=by omega
 have h2:b.natAbs<=m:=by omega
 have h3:=Nat.mul_le_mul h1 h2
 rw[<- Int.natAbs_mul]at h3
 omega
def mixed {α:Type} (l:List α) (g:α->α) (k:Nat):List α:=(l.take k).map g++l.drop k
end Go.Abs
