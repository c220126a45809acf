/- Part of the library on which the proof stands: an abstract machine, its values and its soundness against the model; or what functions of the program do to such values. -/
import Derived.Test.YtcdjgldeiaiaoaaGreatGoRsM
import Derived.Test.YtcdjgldeiaiaoaaGreatGoRp
import Derived.Test.YtcdjgldeiaiaoaaGreatGoOriC
import Derived.Test.YtcdjgldeiaiaoaaGreatGoTr
import Derived.Test.YtcdjgldeiaiaoaaGreatGoWeA
import Derived.Test.YtcdjgldeiaiaoaaGreatGoShpN
import Derived.Test.YtcdjgldeiaiaoaaGreatGoRv
set_option linter.unusedVariables false
set_option linter.unusedSimpArgs false
namespace Go.Abs
def Q28 (u:V3) (l:List V3):V3:=l.foldl (λa w=>⟨min a.x w.x,min a.y w.y,min a.z w.z⟩) u
def Q29 (u:V3) (l:List V3):V3:=l.foldl (λa w=>⟨max a.x w.x,max a.y w.y,max a.z w.z⟩) u
def bLo:List V3->V3
 | []=>⟨0,0,0⟩
 | v::l=>Q28 v (v::l)
def bHi:List V3->V3
 | []=>⟨0,0,0⟩
 | v::l=>Q29 v (v::l)
theorem Qi0 (u:V3) (l:List V3) (w:V3):Q28 u (l++[w])=⟨min (Q28 u l).x w.x,min (Q28 u l).y w.y,min (Q28 u l).z w.z⟩:=by simp[Q28]
theorem Qi1 (u:V3) (l:List V3) (w:V3):Q29 u (l++[w])=⟨max (Q29 u l).x w.x,max (Q29 u l).y w.y,max (Q29 u l).z w.z⟩:=by simp[Q29]
def mnF (f:V3->Int) (a:Int) (l:List V3):Int:=l.foldl (λa w=>min a (f w)) a
def mxF (f:V3->Int) (a:Int) (l:List V3):Int:=l.foldl (λa w=>max a (f w)) a
theorem Qkk (f:V3->Int):∀(l:List V3) (a:Int),mnF f a l<=a/\(∀w∈l,mnF f a l<=f w)/\(mnF f a l=a∨∃w∈l,mnF f a l=f w)
 | [],a=>⟨Int.le_refl _,by simp,.inl rfl⟩
 | v::l,a=>by
   have e:mnF f a (v::l)=mnF f (min a (f v)) l:=rfl
   obtain⟨h1,h2,h3⟩:=Qkk f l (min a (f v))
   rw[e]
   refine⟨by clear h3;omega,λw hw=>?_,?_⟩
   ·rcases List.mem_cons.1 hw with rfl | hw
    ·clear h3;omega
    ·exact h2 w hw
   ·rcases h3 with h3 | ⟨w,hw,h3⟩
    ·rw[h3]
     by_cases c:a<=f v
     ·exact .inl (by omega)
     ·exact .inr ⟨v,by simp,by omega⟩
    ·exact .inr ⟨w,by simp[hw],h3⟩
theorem Qkj (f:V3->Int):∀(l:List V3) (a:Int),a<=mxF f a l/\(∀w∈l,f w<=mxF f a l)/\(mxF f a l=a∨∃w∈l,mxF f a l=f w)
 | [],a=>⟨Int.le_refl _,by simp,.inl rfl⟩
 | v::l,a=>by
   have e:mxF f a (v::l)=mxF f (max a (f v)) l:=rfl
   obtain⟨h1,h2,h3⟩:=Qkj f l (max a (f v))
   rw[e]
   refine⟨by clear h3;omega,λw hw=>?_,?_⟩
   ·rcases List.mem_cons.1 hw with rfl | hw
    ·clear h3;omega
    ·exact h2 w hw
   ·rcases h3 with h3 | ⟨w,hw,h3⟩
    ·rw[h3]
     by_cases c:f v<=a
     ·exact .inl (by omega)
     ·exact .inr ⟨v,by simp,by omega⟩
    ·exact .inr ⟨w,by simp[hw],h3⟩
theorem Qmr:∀(l:List V3) (u:V3),(Q28 u l).x=mnF V3.x u.x l/\(Q28 u l).y=mnF V3.y u.y l/\(Q28 u l).z=mnF V3.z u.z l
 | [],u=>⟨rfl,rfl,rfl⟩
 | v::l,u=>Qmr l ⟨min u.x v.x,min u.y v.y,min u.z v.z⟩
theorem Qms:∀(l:List V3) (u:V3),(Q29 u l).x=mxF V3.x u.x l/\(Q29 u l).y=mxF V3.y u.y l/\(Q29 u l).z=mxF V3.z u.z l
 | [],u=>⟨rfl,rfl,rfl⟩
 | v::l,u=>Qms l ⟨max u.x v.x,max u.y v.y,max u.z v.z⟩
def nx (n i:Nat):Nat:=if i+1=n then 0 else i+1
def cr (p q:P2):Int:=p.x*q.y-p.y*q.x
def L0m.c (L0p L0l L0n:FuncId):C :=(.seq (.reg [Au 3 (.box (.t 0)),Au 4 (.box (.t 1)),Au 5 (.box (.t 2)),Ac 6 0]) (.seq (.seq (.reg [Ag 7 3 3,Au 8 (.call L0p [.t 7]),Au 9 (.un .not (.t 8)),Am 10 9,Aw 11 10 (.ld (some 3) (.t 4)),Aw 12 10 (.call L0p [.t 11]),Aw 13 10 (.un .not (.t 12)),Ao 14 10 13,Am 15 14,Aw 16 15 (.ld (some 3) (.t 5)),Aw 17 15 (.call L0p [.t 16]),Aw 18 15 (.un .not (.t 17)),Ao 19 15 18]) (.ite (.t 19) (.seq (.reg [Ac 6 0]) .ret) .skip)) (.seq (.drw [Ag 20 3 3,Ag 21 3 4,Ag 22 3 5,Au 23 (.call L0l [.t 21,.t 22]),Au 24 (.call L0n [.t 20,.t 23]),Am 6 24] [[],[],[],[0],[],[]]) .ret)))
def L0m.r:List Rr:=[.tmp 6]
abbrev L0m.n:Nat:=25
def L0p.c (L0q:FuncId):C :=(.seq (.reg [Au 1 (.box (.t 0)),Ab 2 false]) (.seq (.reg [Ag 3 3 1,Au 4 (.call L0q [.t 3,(.c (.i .i64 131072))]),Am 2 4]) .ret))
def L0p.r:List Rr:=[.tmp 2]
abbrev L0p.n:Nat:=5
def L0n.c (L0p L0q:FuncId):C :=(.seq (.reg [Au 2 (.box (.t 0)),Au 3 (.box (.t 1)),Ac 4 0]) (.seq (.seq (.reg [Ag 5 3 2,Au 6 (.call L0p [.t 5]),Au 7 (.un .not (.t 6)),Am 8 7,Aw 9 8 (.ld (some 3) (.t 3)),Aw 10 8 (.call L0q [.t 9,(.c (.i .i64 1099511627776))]),Aw 11 8 (.un .not (.t 10)),Ao 12 8 11]) (.ite (.t 12) (.seq (.reg [Ac 4 0]) .ret) .skip)) (.seq (.reg [Af 13 0 2,Al 14 13,Af 15 0 3,Al 16 15,Aj .mul 17 14 16,Af 18 1 2,Al 19 18,Af 20 1 3,Al 21 20,Aj .mul 22 19 21,Aj .add 23 17 22,Af 24 2 2,Al 25 24,Af 26 2 3,Al 27 26,Aj .mul 28 25 27,Aj .add 29 23 28,Am 4 29]) .ret)))
def L0n.r:List Rr:=[.tmp 4]
abbrev L0n.n:Nat:=30
def L0l.c (L0p:FuncId):C :=(.seq (.reg [Au 2 (.box (.t 0)),Au 3 (.box (.t 1)),Au 4 (.alloc [(.i .i64 0),(.i .i64 0),(.i .i64 0)])]) (.seq (.seq (.reg [Ag 5 3 2,Au 6 (.call L0p [.t 5]),Au 7 (.un .not (.t 6)),Am 8 7,Aw 9 8 (.ld (some 3) (.t 3)),Aw 10 8 (.call L0p [.t 9]),Aw 11 8 (.un .not (.t 10)),Ao 12 8 11]) (.ite (.t 12) (.seq (.reg [Au 13 (.build [(.i .i64 0),(.i .i64 0),(.i .i64 0)] []),As 3 4 13]) .ret) .skip)) (.seq (.reg [Af 14 1 2,Al 15 14,Af 16 2 3,Al 17 16,Aj .mul 18 15 17,Af 19 2 2,Al 20 19,Af 21 1 3,Al 22 21,Aj .mul 23 20 22,Aj .sub 24 18 23,Af 25 2 2,Al 26 25,Af 27 0 3,Al 28 27,Aj .mul 29 26 28,
 Af 30 0 2,Al 31 30,Af 32 2 3,Al 33 32,Aj .mul 34 31 33,Aj .sub 35 29 34,Af 36 0 2,Al 37 36,Af 38 1 3,Al 39 38,Aj .mul 40 37 39,Af 41 1 2,Al 42 41,Af 43 0 3,Al 44 43,Aj .mul 45 42 44,Aj .sub 46 40 45,Au 47 (.build [(.i .i64 0),(.i .i64 0),(.i .i64 0)] [(0,1,(.t 24)),(1,1,(.t 35)),(2,1,(.t 46))]),As 3 4 47]) .ret)))
def L0l.r:List Rr:=[.cell 4 (some 3)]
abbrev L0l.n:Nat:=48
section
variable {P:Program} (hm:P.follows .mixedOrders=true)
include hm
theorem Q3c {f fw:FuncId} (hf:Qc P f (L0p.c fw) L0p.r L0p.n) (hw:Xl P fw):Xx P f:=Il hm hf hw
theorem Q3e {f fs:FuncId} (hf:Qc P f (L0l.c fs) L0l.r L0l.n) (hs:Xx P fs):Q2i P f:=Im hm hf hs
theorem Q7j {f fs fw:FuncId} (hf:Qc P f (L0n.c fs fw) L0n.r L0n.n) (hs:Xx P fs) (hw:Xl P fw):Qfm P f:=Q2p hm hf hs hw
theorem Q7k {f fs fc fd:FuncId} (hf:Qc P f (L0m.c fs fc fd) L0m.r L0m.n) (hs:Xx P fs) (hc:Q2i P fc) (hd:Qfm P fd):Qio P f:=by
 intro x y z hx hy hz
 refine PureC.is (Q9 hm hf (qh rfl) ?_) rfl
 unfold L0m.c
 have h0:=hs x
 have h1:=hs y
 have h2:=hs z
 rw[Y3 hx]at h0
 rw[Y3 hy]at h1
 rw[Y3 hz]at h2
 simp[go_sem,V3.enc,V3.cs]at h0 h1 h2 ⊢
 refine Q6 h0 ?_
 simp[go_sem]
 refine Q6 h1 ?_
 simp[go_sem]
 refine Q6 h2 ?_
 simp[go_sem]
 refine Qp (hc y z hy hz) ?_
 simp[go_sem]
 refine Qp (hd x (crs y z) hx (Q4w hy hz)) ?_
 simp[go_sem,L0m.r,Ig]
theorem Q0f {f fc fd:FuncId} (hf:Qc P f (L0u.c fc fd) L0u.r L0u.n) (hc:Zp P fc) (hd:Qio P fd):Qdz P f:=Wh hm hf hc hd
end
def T3.sh (n:Int) (t:T3):T3:=⟨t.a+n,t.b+n,t.c+n⟩
def Mesh.dbl (m:Mesh) (d:V3):Mesh:=⟨m.verts++m.verts.map (·.add d),m.tris++m.tris.map (T3.sh m.verts.length)⟩
structure Side (m:Mesh) (d:V3):Prop where
 z:m.check=0
 mv:Yb (m.verts.map (·.add d))=true
 far:∀u∈m.verts,∀v∈m.verts,V3.lt u (v.add d)
theorem lt_add {u v d:V3}:V3.lt (u.add d) (v.add d)↔V3.lt u v:=by
 unfold V3.lt V3.add;simp only[];omega
theorem add_inj {u v d:V3} (h:u.add d=v.add d):u=v:=by
 cases u;cases v;cases d
 simp only[V3.add,V3.mk.injEq]at h ⊢
 omega
theorem W6 {m:Mesh} {d:V3} {i:Int} (h0:0<=i) (h1:i<m.verts.length):(m.dbl d).v i=m.v i:=by
 unfold Mesh.v Mesh.dbl
 simp only[]
 rw[qd (by omega)]
theorem W5 {m:Mesh} {d:V3} {i:Int} (h0:0<=i) (h1:i<m.verts.length):(m.dbl d).v (i+m.verts.length)=(m.v i).add d:=by
 have hlt:i.toNat<m.verts.length:=by omega
 unfold Mesh.v Mesh.dbl
 simp only[]
 rw[qf (by omega),show (i+(m.verts.length:Int)).toNat-m.verts.length=i.toNat by omega,qq,q9 hlt]
 rfl
theorem Qb7 {m:Mesh} {d:V3} (hz:m.check=0) {t:T3} (ht:t∈m.tris):(m.dbl d).cor t=m.cor t:=by
 obtain⟨a0,a1,b0,b1,c0,c1⟩:=tok hz ht
 simp only[Mesh.cor,W6 a0 a1,W6 b0 b1,W6 c0 c1]
theorem Qb6 {m:Mesh} {d:V3} (hz:m.check=0) {t:T3} (ht:t∈m.tris):(m.dbl d).cor (t.sh m.verts.length)=(m.cor t).map (·.add d):=by
 obtain⟨a0,a1,b0,b1,c0,c1⟩:=tok hz ht
 simp only[Mesh.cor,T3.sh,W5 a0 a1,W5 b0 b1,W5 c0 c1,List.map]
theorem Qhv {m:Mesh} (hz:m.check=0) {t:T3} (ht:t∈m.tris) {v:V3} (hv:v∈m.cor t):v∈m.verts:=by
 obtain⟨a0,a1,b0,b1,c0,c1⟩:=tok hz ht
 simp only[Mesh.cor,List.mem_cons,List.not_mem_nil,or_false]at hv
 rcases hv with rfl | rfl | rfl
 ·exact Mesh.v_mem a0 a1
 ·exact Mesh.v_mem b0 b1
 ·exact Mesh.v_mem c0 c1
theorem Yz {m:Mesh} (hz:m.check=0) {v:V3} (hv:v∈m.wverts):v∈m.verts:=by
 obtain⟨t,ht,hc⟩:=mem_wverts.1 hv
 exact Qhv hz ht hc
theorem asc_dbl {l:List V3} {d:V3} (h:l.Pairwise V3.lt) (hf:∀u∈l,∀v∈l,V3.lt u (v.add d)):(l++l.map (·.add d)).Pairwise V3.lt:=by
 rw[jc]
 refine⟨h,?_,?_⟩
 ·rw[je]
  exact h.imp λ{a b} hh=>lt_add.2 hh
 ·intro u hu w hw
  obtain⟨v,hv,rfl⟩:=qp.1 hw
  exact hf u hu v hv
theorem Qdk {m:Mesh} {d:V3} (h:Side m d):(m.dbl d).wverts=m.wverts++m.wverts.map (·.add d):=by
 refine Km V3.ltO (Zu _) (asc_dbl (Zu m) λu hu v hv=>h.far u (Yz h.z hu) v (Yz h.z hv)) λv=>?_
 rw[mem_wverts,qg,qp]
 constructor
 ·rintro⟨t,ht,hv⟩
  rcases qg.1 (show t∈m.tris++m.tris.map _ from ht) with ht | ht
  ·rw[Qb7 h.z ht]at hv
   exact .inl (mem_wverts.2 ⟨t,ht,hv⟩)
  ·obtain⟨s,hs,rfl⟩:=qp.1 ht
   rw[Qb6 h.z hs]at hv
   obtain⟨u,hu,rfl⟩:=qp.1 hv
   exact .inr ⟨u,mem_wverts.2 ⟨s,hs,hu⟩,rfl⟩
 ·rintro (hv | ⟨u,hu,rfl⟩)
  ·obtain⟨t,ht,hc⟩:=mem_wverts.1 hv
   exact⟨t,List.mem_append_left _ ht,by rw[Qb7 h.z ht];exact hc⟩
  ·obtain⟨t,ht,hc⟩:=mem_wverts.1 hu
   exact⟨t.sh m.verts.length,List.mem_append_right _ (qp.2 ⟨t,ht,rfl⟩),by rw[Qb6 h.z ht];exact qp.2 ⟨u,hc,rfl⟩⟩
theorem Q4h {l k:List V3} {v:V3} (h:v∈l):Xg (l++k) v=Xg l v:=by
 unfold Xg;rw[List.idxOf_append,if_pos h]
theorem Ql3 {l k:List V3} {v:V3} (h:v∉l):Xg (l++k) v=Xg k v+l.length:=by
 unfold Xg;rw[List.idxOf_append,if_neg h];omega
theorem idx_map {l:List V3} {v d:V3} (hn:l.Nodup) (h:v∈l):Xg (l.map (·.add d)) (v.add d)=Xg l v:=by
 have h1:=Q4i h
 have hn2:(l.map (·.add d)).Nodup:=by
  rw[List.Nodup,je]
  exact hn.imp λhne he=>hne (add_inj he)
 have:=K6 hn2 (i:=(Xg l v).toNat) (v:=v.add d) (by rw[qq,h1];rfl)
 have:=(Ju h).1
 omega
theorem Bs {m:Mesh} {d:V3} (h:Side m d):(m.dbl d).weldM=m.weldM.dbl d:=by
 have hnd:m.wverts.Nodup:=K0 V3.ltO (Zu m)
 have hi2:∀v∈m.wverts,Xg (m.wverts++m.wverts.map (·.add d)) (v.add d)=Xg m.wverts v+m.wverts.length:=by
  intro v hv
  rw[Ql3,idx_map hnd hv]
  intro hm
  exact V3.ltO.irr _ (h.far _ (Yz h.z hm) v (Yz h.z hv))
 show Mesh.mk (m.dbl d).wverts ((m.tris++m.tris.map (T3.sh m.verts.length)).map (K3 (m.dbl d) (m.dbl d).wverts))=_
 rw[Qdk h,qx,List.map_map]
 show _=Mesh.mk (m.wverts++m.wverts.map (·.add d)) (m.tris.map (K3 m m.wverts)++(m.tris.map (K3 m m.wverts)).map (T3.sh m.wverts.length))
 rw[List.map_map]
 congr 2
 ·refine jl λt ht=>?_
  obtain⟨a0,a1,b0,b1,c0,c1⟩:=tok h.z ht
  obtain⟨h1,h2,h3⟩:=Uq ht
  simp only[K3,W6 a0 a1,W6 b0 b1,W6 c0 c1,Q4h h1,Q4h h2,Q4h h3]
 ·refine jl λt ht=>?_
  obtain⟨a0,a1,b0,b1,c0,c1⟩:=tok h.z ht
  obtain⟨h1,h2,h3⟩:=Uq ht
  simp only[Function.comp,K3,T3.sh,W5 a0 a1,W5 b0 b1,W5 c0 c1,hi2 _ h1,hi2 _ h2,hi2 _ h3]
theorem Side.weld {m:Mesh} {d:V3} (h:Side m d):Side m.weldM d where
 z:=Eb h.z
 mv:=by
  simp only[Yb,qj]
  intro v hv
  obtain⟨u,hu,rfl⟩:=qp.1 hv
  exact qj.1 h.mv _ (qp.2 ⟨u,Yz h.z hu,rfl⟩)
 far u hu v hv:=h.far u (Yz h.z hu) v (Yz h.z hv)
theorem Q13 {dg dg':T3->Bool} {f:T3->T3} {T:List T3} {out0:List T3} {a b:Nat} (hd:∀t∈T,dg' (f t)=dg t) (ht:∀s∈T,∀t∈T,(f s).twins (f t)=s.twins t)
  (hx:∀o∈out0,∀t∈T,(f t).twins o=false):∀(ts:List T3) (s:Cl),(∀t∈ts,t∈T)->(∀o∈s.out,o∈T) ->
  (ts.map f).foldl (Cl.step dg') ⟨out0++s.out.map f,a+s.deg,b+s.twin⟩=⟨out0++(ts.foldl (Cl.step dg) s).out.map f,a+(ts.foldl (Cl.step dg) s).deg,b+(ts.foldl (Cl.step dg) s).twin⟩
 | [],s,_,_=>rfl
 | t::ts,s,h1,h2=>by
   rw[List.map_cons,List.foldl_cons,List.foldl_cons]
   have htT:=h1 t (by simp)
   have hst:Cl.step dg' ⟨out0++s.out.map f,a+s.deg,b+s.twin⟩ (f t)=⟨out0++(Cl.step dg s t).out.map f,a+(Cl.step dg s t).deg,b+(Cl.step dg s t).twin⟩:=by
    have hany:(out0++s.out.map f).any (T3.twins (f t))=s.out.any (T3.twins t):=by
     rw[List.any_append,List.any_map]
     have h0:out0.any (T3.twins (f t))=false:=by
      rw[List.any_eq_false];intro o ho;rw[hx o ho t htT];simp
     rw[h0,Bool.false_or,Bool.eq_iff_iff,List.any_eq_true,List.any_eq_true]
     constructor
     ·rintro⟨o,ho,hh⟩;exact⟨o,ho,by rw[<- ht t htT o (h2 o ho)];exact hh⟩
     ·rintro⟨o,ho,hh⟩;exact⟨o,ho,by show (f t).twins (f o)=true;rw[ht t htT o (h2 o ho)];exact hh⟩
    unfold Cl.step
    rw[hd t htT]
    simp only[hany]
    cases dg t
    ·cases s.out.any (T3.twins t)<;>simp[Nat.add_assoc]
    ·simp[Nat.add_assoc]
   rw[hst]
   refine Q13 hd ht hx ts _ (λu hu=>h1 u (by simp[hu])) (λo ho=>?_)
   unfold Cl.step at ho
   split at ho
   ·exact h2 o ho
   ·split at ho
    ·exact h2 o ho
    ·rcases qg.1 ho with ho | ho
     ·exact h2 o ho
     ·rw[qo]at ho;subst ho;exact htT
theorem Qjn (n:Int) (s t:T3):(s.sh n).twins (t.sh n)=s.twins t:=by
 cases s;cases t
 simp only[T3.twins,T3.sh,T3.rot,T3.mk.injEq]
 congr 1
 ·rw[decide_eq_decide];omega
 ·congr 1<;>(rw[decide_eq_decide];omega)
theorem Qge {n:Int} {s t:T3} (hs:s.a<n) (h1:0<=t.a) (h2:0<=t.b) (h3:0<=t.c):(t.sh n).twins s=false:=by
 cases s;cases t
 simp only[T3.twins,T3.sh,T3.rot,T3.mk.injEq]at *
 simp only[Bool.or_eq_false_iff,decide_eq_false_iff_not]
 omega
theorem Qme {m:Mesh} {d:V3} (hz:m.check=0) {t:T3} (ht:t∈m.tris):(m.dbl d).deg t=m.deg t:=by
 obtain⟨a0,a1,b0,b1,c0,c1⟩:=tok hz ht
 unfold Mesh.deg
 rw[W6 a0 a1,W6 b0 b1,W6 c0 c1]
theorem Qmd {m:Mesh} {d:V3} (h:Side m d) {t:T3} (ht:t∈m.tris):(m.dbl d).deg (t.sh m.verts.length)=m.deg t:=by
 obtain⟨a0,a1,b0,b1,c0,c1⟩:=tok h.z ht
 have hk:∀i:Int,0<=i->i<m.verts.length->((m.v i).add d).valid=true:=λi h0 h1 =>
  qj.1 h.mv _ (qp.2 ⟨_,Mesh.v_mem h0 h1,rfl⟩)
 unfold Mesh.deg
 simp only[T3.sh]
 rw[W5 a0 a1,W5 b0 b1,W5 c0 c1]
 exact Q4x (Kg h.z a0 a1) (Kg h.z b0 b1) (Kg h.z c0 c1) (hk _ a0 a1) (hk _ b0 b1) (hk _ c0 c1)
theorem Q12 {dg:T3->Bool} {ts:List T3}:∀t∈(Qr dg ts).out,t∈ts:=(Kl dg ts).sub.subset
theorem Q6u {m:Mesh} {d:V3} (h:Side m d):(m.dbl d).cleanM=m.cleanM.dbl d:=by
 have h1:m.tris.foldl (Cl.step (m.dbl d).deg) ⟨[],0,0⟩=Qr m.deg m.tris:=by
  have:=Q13 (dg:=m.deg) (dg':=(m.dbl d).deg) (f:=id) (T:=m.tris) (out0:=[]) (a:=0) (b:=0) (λt ht=>Qme h.z ht) (λ_ _ _ _=>rfl) (by simp) m.tris ⟨[],0,0⟩ (λt ht=>ht) (by simp)
  simpa[Qr]using this
 have h2:=Q13 (dg:=m.deg) (dg':=(m.dbl d).deg) (f:=T3.sh m.verts.length) (T:=m.tris) (out0:=(Qr m.deg m.tris).out) (a:=(Qr m.deg m.tris).deg) (b:=(Qr m.deg m.tris).twin)
  (λt ht=>Qmd h ht) (λs _ t _=>Qjn _ s t) (λo ho t ht=>by
   obtain⟨a0,a1,b0,b1,c0,c1⟩:=tok h.z ht
   obtain⟨_,o1,_⟩:=tok h.z (Q12 o ho)
   exact Qge o1 a0 b0 c0) m.tris ⟨[],0,0⟩ (λt ht=>ht) (by simp)
 unfold Mesh.cleanM
 have h3:(Qr (m.dbl d).deg (m.dbl d).tris).out=(Qr m.deg m.tris).out++(Qr m.deg m.tris).out.map (T3.sh m.verts.length):=by
  show ((m.tris++m.tris.map (T3.sh m.verts.length)).foldl (Cl.step (m.dbl d).deg) ⟨[],0,0⟩).out=_
  rw[List.foldl_append,h1]
  simp only[List.map_nil,List.append_nil,Nat.add_zero]at h2
  rw[show (⟨(Qr m.deg m.tris).out,(Qr m.deg m.tris).deg,(Qr m.deg m.tris).twin⟩:Cl)=Qr m.deg m.tris from rfl]at h2
  rw[h2];rfl
 rw[h3];rfl
theorem Side.cleanM {m:Mesh} {d:V3} (h:Side m d):Side m.cleanM d:=⟨by
 obtain⟨z1,z2,z3,z4⟩:=Mesh.check_zero.1 h.z
 refine Mesh.check_zero.2 ⟨z1,?_,z3,?_⟩
 ·exact Nat.le_trans (Kl m.deg m.tris).sub.length_le z2
 ·simp only[Jl,qj]at z4 ⊢
  exact λt ht=>z4 t (Q12 t ht),h.mv,h.far⟩
end Go.Abs
