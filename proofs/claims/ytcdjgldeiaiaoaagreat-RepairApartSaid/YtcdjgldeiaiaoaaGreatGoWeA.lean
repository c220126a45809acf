/- Part of the library on which the proof stands: an abstract machine, its values and its soundness against the model; or what functions of the program do to such values. -/
import Derived.Test.YtcdjgldeiaiaoaaGreatGoOriC
import Derived.Test.YtcdjgldeiaiaoaaGreatGoShpA
import Derived.Test.YtcdjgldeiaiaoaaGreatGoTr
import Derived.Test.YtcdjgldeiaiaoaaGreatGoRevC
import Derived.Test.YtcdjgldeiaiaoaaGreatGoSet
import Derived.Test.YtcdjgldeiaiaoaaGreatGoToA
set_option linter.unusedVariables false
set_option linter.unusedSimpArgs false
set_option maxHeartbeats 1000000
set_option maxRecDepth 4000
namespace Go.Abs
def Mesh.coh (m:Mesh):Bool:=decide (m.check=0) && cohB m.tris
def Q1d (P:Program) (f:FuncId):Prop:=∀m:Mesh,CallIs P f [m.enc] (.b m.coh)
section
variable {P:Program} (hm:P.follows .mixedOrders=true)
include hm
theorem Eo {f fc fh:FuncId} (hf:Qc P f (L0c.c fc fh) L0c.r L0c.n) (hc:Zp P fc) (hh:Qo1 P fh):Q1d P f:=by
 intro m
 refine PureC.is (Q9 hm hf (qh rfl) ?_) rfl
 unfold L0c.c
 simp[go_sem,Mesh.enc,Mesh.cs]
 refine Q6 (hc m) ?_
 by_cases h:m.check=0
 ·have hl:=(Mesh.check_zero.1 h).2.1
  simp[go_sem,h]
  refine Q6 (hh m.tris (by omega)) ?_
  simp[go_sem,L0c.r,Mesh.coh,h]
 ·have h':(m.check == 0)=false:=by simpa using h
  simp[go_sem,h,h',L0c.r,Mesh.coh]
end
def net (E:List P2) (e:P2):Int:=(E.count e:Int)-(E.count e.rev:Int)
theorem net_nil (e:P2):net [] e=0:=by simp[net]
theorem Bc (E F:List P2) (e:P2):net (E++F) e=net E e+net F e:=by
 unfold net;rw[List.count_append,List.count_append];omega
theorem Qki {E F:List P2} (h:E.Perm F) (e:P2):net E e=net F e:=by unfold net;rw[h.count_eq,h.count_eq]
theorem Qew (E:List P2) (e:P2):net (E.map P2.rev) e=- net E e:=by
 unfold net;rw[Up,Up,P2.rev2];omega
theorem Q41 (p e:P2):net [p.rev] e=- net [p] e:=Qew [p] e
theorem Wv (p:P2) (E:List P2) (e:P2):net (p::E) e=net [p] e+net E e:=Bc [p] E e
theorem Qkh (x:Int) (e:P2):net [⟨x,x⟩] e=0:=by
 have:=Q41 ⟨x,x⟩ e
 have h:(⟨x,x⟩:P2).rev=⟨x,x⟩:=rfl
 rw[h]at this;omega
theorem Qco (E:List P2) (e:P2):net (E.filter λa=>decide (a.x≠a.y)) e=net E e:=by
 induction E with
 | nil=>rfl
 | cons a E ih =>
   rw[List.filter_cons]
   split
   ·rw[Wv,Wv a E,ih]
   ·rename_i h
    have h:a.x=a.y:=by simpa using h
    have ha:a=⟨a.x,a.x⟩:=by cases a;simp only at h;subst h;rfl
    rw[Wv,ih,ha,Qkh];omega
theorem Qa6 (t:T3) (e:P2):net (Q5 t) e=net [⟨t.a,t.b⟩] e+net [⟨t.b,t.c⟩] e+net [⟨t.c,t.a⟩] e:=by
 have h:Q5 t=(Y5 t).filter λa=>decide (a.x≠a.y):=rfl
 rw[h,Qco]
 unfold Y5
 rw[Wv,Wv ⟨t.b,t.c⟩];omega
theorem J7 (l k:List T3) (e:P2):net (Q8 (l++k)) e=net (Q8 l) e+net (Q8 k) e:=by
 unfold Q8;rw[List.flatMap_append,Bc]
theorem Q7y (t:T3) (e:P2):net (Q8 [t]) e=net (Q5 t) e:=by unfold Q8;simp
def gD (w:List Int) (i:Nat):Int:=(w[i]?).getD 0
def E1 (w:List Int) (j:Nat):List P2:=(List.range j).map λi=>⟨gD w i,gD w (i+1)⟩
theorem Qcf (w:List Int) (j:Nat):E1 w (j+1)=E1 w j++[⟨gD w j,gD w (j+1)⟩]:=by simp[E1,List.range_succ]
theorem Qf9 (w:List Int) (e:P2):∀k,net (Q8 (Ic w k)) e=net (E1 w (k+1)) e+net [⟨gD w (k+1),gD w 0⟩] e
 | 0=>by
   have h1:Q8 (Ic w 0)=[]:=rfl
   have h2:E1 w 1=[⟨gD w 0,gD w 1⟩]:=rfl
   have:=Q41 ⟨gD w 0,gD w 1⟩ e
   have h3:(⟨gD w 0,gD w 1⟩:P2).rev=⟨gD w 1,gD w 0⟩:=rfl
   rw[h3]at this
   rw[h1,h2,net_nil,this];omega
 | k+1=>by
   have ih:=Qf9 w e k
   have:=Q41 ⟨gD w 0,gD w (k+1)⟩ e
   have h3:(⟨gD w 0,gD w (k+1)⟩:P2).rev=⟨gD w (k+1),gD w 0⟩:=rfl
   rw[h3]at this
   rw[Q6q,J7,Q7y,Qa6,Qcf,Bc,ih]
   show _+(net [⟨gD w 0,gD w (k+1)⟩] e+net [⟨gD w (k+1),gD w (k+1+1)⟩] e+net [⟨gD w (k+1+1),gD w 0⟩] e)=_
   omega
theorem Qmf {nx:Int->Int} {w:List Int} (h:Cyc nx w):w.map (λv=>(⟨v,nx v⟩:P2))=E1 w (w.length-1)++[⟨gD w (w.length-1),gD w 0⟩]:=by
 have hne:0<w.length:=List.length_pos_iff.2 h.1
 have hpl:(E1 w (w.length-1)).length=w.length-1:=by simp[E1]
 apply qy
 intro i
 by_cases hi:i<w.length
 ·have hp:w[i]?=some w[i]:=q9 hi
  have hm:(i+1) % w.length<w.length:=Nat.mod_lt _ hne
  have hc:=h.2 i _ _ hp (q9 hm)
  rw[qq,hp,Option.map_some,hc]
  by_cases hl:i<w.length-1
  ·rw[qd (by omega)]
   have:(E1 w (w.length-1))[i]?=some ⟨gD w i,gD w (i+1)⟩:=by simp[E1,hl]
   rw[this]
   have e1:gD w i=w[i]:=by simp[gD,hp]
   have e2:gD w (i+1)=w[i+1]'(by omega):=by unfold gD;rw[q9 (by omega)];rfl
   have e3:(i+1) % w.length=i+1:=Nat.mod_eq_of_lt (by omega)
   simp only[e1,e2,e3]
  ·have hi2:i=w.length-1:=by omega
   rw[qf (by omega),hpl,show i-(w.length-1)=0 by omega]
   have e1:gD w (w.length-1)=w[i]:=by unfold gD;rw[<- hi2,hp];rfl
   have e2:gD w 0=w[0]:=by unfold gD;rw[q9 hne];rfl
   have e3:(i+1) % w.length=0:=by rw[show i+1=w.length by omega,Nat.mod_self]
   simp only[e1,e2,e3,List.getElem?_cons_zero]
 ·rw[qk (by simp;omega),qk (by simp[hpl];omega)]
theorem Qho {nx:Int->Int} {w:List Int} (h:Cyc nx w) (h2:2<=w.length) (e:P2):net (Q8 (Zk w)) e=net (w.map λv=>(⟨v,nx v⟩:P2)) e:=by
 unfold Zk
 rw[Qf9,Qmf h,Bc,show w.length-2+1=w.length-1 by omega]
theorem Qm5 {nx:Int->Int} {ls:List (List Int)} (h:∀w∈ls,Cyc nx w) (h2:∀w∈ls,2<=w.length) (e:P2):net (Q8 (ls.flatMap Zk)) e=net (ls.flatten.map λv=>(⟨v,nx v⟩:P2)) e:=by
 induction ls with
 | nil=>rfl
 | cons w ls ih =>
   rw[List.flatMap_cons,J7,Qho (h w (by simp)) (h2 w (by simp)),ih (λu hu=>h u (by simp[hu])) (λu hu=>h2 u (by simp[hu])),List.flatten_cons,qx,Bc]
theorem Q3h {l k:List Int} (hl:l.Nodup) (hk:k.Nodup) (h:∀v,v∈l↔v∈k):l.Perm k:=by
 rw[List.perm_iff_count]
 intro v
 have c:∀{l:List Int},l.Nodup->l.count v=if v∈l then 1 else 0:=λ{l} hl=>by
  by_cases he:v∈l
  ·rw[if_pos he]
   have h1:=List.count_pos_iff.2 he
   have h2:=List.nodup_iff_count.1 hl v
   omega
  ·rw[if_neg he];exact List.count_eq_zero.2 he
 rw[c hl,c hk]
 by_cases hv:v∈l
 ·rw[if_pos hv,if_pos ((h v).1 hv)]
 ·rw[if_neg hv,if_neg (λhh=>hv ((h v).2 hh))]
theorem Bw (m:Mesh):m.border.Nodup:=(Zw m).imp λh1 h2=>by subst h2;exact P2.lt_irrefl _ h1
theorem Qcp {m:Mesh} (hz:m.check=0) (h:m.simple m.border=true) (e:P2):net (Q8 m.tris) e=net m.border e:=by
 have hn:=Bw m
 have hu:∀e,m.use e=(Q8 m.tris).count e:=λe=>by simp[Mesh.use,hz]
 have hcnt:∀e,m.border.count e=if e∈m.border then 1 else 0:=λe=>by
  by_cases he:e∈m.border
  ·rw[if_pos he]
   have h1:=List.count_pos_iff.2 he
   have h2:=List.nodup_iff_count.1 hn e
   omega
  ·rw[if_neg he];exact List.count_eq_zero.2 he
 unfold net
 rw[hcnt,hcnt]
 by_cases h1:e∈m.border
 ·have g1:=Jn h h1
  rw[hu,hu]at g1
  have h2:e.rev∉m.border:=λh2=>by have:=Jn h h2;rw[P2.rev2,hu,hu]at this;omega
  rw[if_pos h1,if_neg h2];omega
 ·by_cases h2:e.rev∈m.border
  ·have g2:=Jn h h2
   rw[P2.rev2,hu,hu]at g2
   rw[if_neg h1,if_pos h2];omega
  ·rw[if_neg h1,if_neg h2]
   have p1:0<=m.use e:=by rw[hu];omega
   have p2:0<=m.use e.rev:=by rw[hu];omega
   have k1:¬ (m.use e.rev<m.use e):=λhlt=>h1 (mem_border.2 ⟨hz,(Ip hz).2 (by omega),hlt⟩)
   have k2:¬ (m.use e<m.use e.rev):=λhlt=>h2 (mem_border.2 ⟨hz,(Ip hz).2 (by omega),by rw[P2.rev2];exact hlt⟩)
   rw[hu,hu]at k1 k2
   omega
def Mesh.fillM (m:Mesh):Mesh:=⟨m.verts,m.tris++m.loops.1.flatMap Zk⟩
theorem Wx {m:Mesh} (h:m.loops.2=0):m.check=0/\m.simple m.border=true/\m.loops.1=Yd m.border:=by
 unfold Mesh.loops at h ⊢
 by_cases hz:m.check=0
 ·rw[if_pos hz]at h ⊢
  by_cases hs:m.simple m.border=true
  ·rw[if_pos hs];exact⟨hz,hs,rfl⟩
  ·rw[if_neg hs]at h;simp at h
 ·rw[if_neg hz]at h;exact absurd h hz
theorem Qm3 {m:Mesh} (h:m.loops.2=0) (e:P2):net (Q8 m.fillM.tris) e=0:=by
 obtain⟨hz,hs,hl⟩:=Wx h
 have hL:=Ki hz hs
 unfold Mesh.fillM
 simp only
 rw[J7,hl,Qm5 hL.cyc (λw hw=>by have:=Q47 hz hs w hw;omega)]
 have hy:=Jz hz hs
 have hp:(Yd m.border).flatten.Perm (m.border.map P2.y):=Q3h hL.nodup hy λv=>by rw[hL.mem,Jj hz hs]
 have h2:(m.border.map P2.y).map (λv=>(⟨v,nxt m.border v⟩:P2))=m.border.map P2.rev:=by
  rw[List.map_map]
  refine jl λe he=>?_
  simp only[Function.comp,Q0q hy he];rfl
 rw[Qki (hp.map _),h2,Qew,Qcp hz hs];omega
theorem Q51 {m:Mesh} (hz:m.check=0):m.border=[]↔∀e,net (Q8 m.tris) e=0:=by
 have hu:∀e,m.use e=(Q8 m.tris).count e:=λe=>by simp[Mesh.use,hz]
 constructor
 ·intro hb e
  have hc:m.closed=true:=by simp[Mesh.closed,hz,hb]
  have k:∀e,m.use e<=m.use e.rev:=λe=>by
   refine j7 λhlt=>?_
   have p2:0<=m.use e.rev:=by rw[hu];omega
   have:e∈m.border:=mem_border.2 ⟨hz,(Ip hz).2 (by omega),by omega⟩
   rw[hb]at this;simp at this
  have k1:=k e
  have k2:=k e.rev
  rw[P2.rev2]at k2
  unfold net
  rw[hu,hu]at k1 k2
  omega
 ·intro h
  rw[List.eq_nil_iff_forall_not_mem]
  intro e he
  have h1:=(mem_border.1 he).2.2
  have h2:=h e
  unfold net at h2
  rw[hu,hu]at h1
  omega
theorem Qhp {w:List Int} {t:T3} (h:t∈Zk w):t.a∈w/\t.b∈w/\t.c∈w:=by
 unfold Zk Ic at h
 obtain⟨i,hi,rfl⟩:=qp.1 h
 have hi:=qz.1 hi
 have k:∀j,j<w.length->(w[j]?).getD 0∈w:=λj hj=>by rw[q9 hj];exact List.getElem_mem _
 exact⟨k 0 (by omega),k (i+1) (by omega),k (i+2) (by omega)⟩
theorem Ib {m:Mesh} (h:m.loops.2=0) (hl:m.fillM.tris.length<=4096):m.fillM.check=0:=by
 obtain⟨hz,hs,hls⟩:=Wx h
 obtain⟨z1,z2,z3,z4⟩:=Mesh.check_zero.1 hz
 refine Mesh.check_zero.2 ⟨z1,hl,z3,?_⟩
 simp only[Mesh.fillM,Jl,qj]at z4 ⊢
 intro t ht
 rcases qg.1 ht with h1 | h1
 ·exact z4 t h1
 ·rw[hls]at h1
  obtain⟨w,hw,htw⟩:=jk.1 h1
  have hL:=Ki hz hs
  have k:∀v∈w,0<=v/\v<m.verts.length:=λv hv=>by
   obtain⟨e,he,rfl⟩:=qp.1 ((hL.mem v).1 (List.mem_flatten.2 ⟨w,hw,hv⟩))
   exact⟨(Zt he).1,(Zt he).2.1⟩
  obtain⟨m1,m2,m3⟩:=Qhp htw
  exact T3.ok_iff.2 ⟨(k _ m1).1,(k _ m1).2,(k _ m2).1,(k _ m2).2,(k _ m3).1,(k _ m3).2⟩
theorem Q1l {m:Mesh} (h:m.loops.2=0) (hl:m.fillM.tris.length<=4096):m.fillM.border=[]:=(Q51 (Ib h hl)).2 (Qm3 h)
theorem Q81 {m:Mesh} (hz:m.check=0) (hb:m.border=[]):m.loops=([],0):=by
 unfold Mesh.loops
 rw[if_pos hz,hb];rfl
def Qt (m:Mesh):Mesh × Int × Int:=if m.loops.2=0 then (if m.fillM.tris.length<=4096 then (m.fillM,m.loops.1.length,0) else (noMesh,0,2)) else (noMesh,0,m.loops.2)
def Bq (r:Mesh × Int × Int):V:=.t [r.1.enc,.i .i64 r.2.1,.i .i64 r.2.2]
def Qny (P:Program) (f:FuncId):Prop:=∀m:Mesh,CallIs P f [m.enc] (Bq (Qt m))
theorem Ul {m:Mesh} (h:m.loops.2=0):(m.loops.1.map List.length).sum=m.border.length:=by
 obtain⟨hz,hs,hls⟩:=Wx h
 have hL:=Ki hz hs
 have hx:=Ef hs (Zw m)
 have hp:=Q3h hL.nodup hx hL.mem
 rw[hls,<- List.length_flatten,hp.length_eq,List.length_map]
theorem Qm6 (ls:List (List Int)):(ls.flatMap Zk).length<=(ls.map List.length).sum:=by
 induction ls with
 | nil=>simp
 | cons w ls ih =>
   rw[List.flatMap_cons,j3,List.map_cons,List.sum_cons]
   have:(Zk w).length=w.length-2:=by unfold Zk;exact Q4r _ _
   omega
theorem Q4p {m:Mesh} (h:m.loops.2=0):m.fillM.tris.length<=m.tris.length+m.border.length:=by
 have h1:=Qm6 m.loops.1
 rw[Ul h]at h1
 simp only[Mesh.fillM,j3];omega
theorem K7 (m:Mesh):m.border.length<=3*m.tris.length:=by
 by_cases hz:m.check=0
 ·have h1:=I5 (Bw m) (λa ha=>(mem_border.1 ha).2.1)
  have hE:=K8 m.tris m.tris.length
  rw[qi]at hE
  omega
 ·simp[Mesh.border,hz]
theorem Qh0 {x y A B:Int} (h1:-A<=x) (h2:x<=A) (h3:-B<=y) (h4:y<=B):-(A*B)<=x*y/\x*y<=A*B:=by
 have hA:0<=A:=by omega
 have hB:0<=B:=by omega
 have h5:=Nat.mul_le_mul (show x.natAbs<=A.natAbs by omega) (show y.natAbs<=B.natAbs by omega)
 rw[<- Int.natAbs_mul,<- Int.natAbs_mul]at h5
 have h6:0<=A*B:=Int.mul_nonneg hA hB
 omega
instance:Inhabited V3:=⟨⟨0,0,0⟩⟩
def Mesh.v (m:Mesh) (i:Int):V3:=m.verts[i.toNat]?.getD ⟨0,0,0⟩
theorem Mesh.v_get {m:Mesh} {i:Int} (h1:i<m.verts.length) (h:i.toNat<m.verts.length):m.verts[i.toNat]=m.v i:=by simp[Mesh.v,h]
def zV3:V:=.a [.i .i64 0,.i .i64 0,.i .i64 0]
def Mesh.corners (m:Mesh) (i:Int):V :=
 if 0<=i/\i<m.tris.length/\m.check=0 then match m.tris[i.toNat]? with
  | some t=>.t [(m.v t.a).enc,(m.v t.b).enc,(m.v t.c).enc,.b true]
  | none=>.any
 else .t [zV3,zV3,zV3,.b false]
def Q58 (P:Program) (f:FuncId):Prop:=∀(m:Mesh) (i:Int),CallIs P f [m.enc,.i .i64 i] (m.corners i)
section
variable {P:Program} (hm:P.follows .mixedOrders=true)
include hm
theorem Q26 {f fc:FuncId} (hf:Qc P f (L0a.c fc) L0a.r L0a.n) (hc:Zp P fc):Q58 P f:=by
 intro m i
 refine PureC.is (Q9 hm hf (qh rfl) ?_) rfl
 unfold L0a.c
 by_cases h:0<=i/\i<m.tris.length
 ·obtain⟨h0,h1⟩:=h
  have hlt:i.toNat<m.tris.length:=by omega
  simp[go_sem,Mesh.enc,Mesh.cs,vsV,tsV,show ¬ i<0 by omega,show ¬ (m.tris.length:Int)<=i by omega]
  refine Q6 (hc m) ?_
  by_cases hz:m.check=0
  ·obtain⟨z1,z2,z3,z4⟩:=Mesh.check_zero.1 hz
   obtain⟨t,hp⟩:∃t,m.tris[i.toNat]?=some t:=⟨_,q9 hlt⟩
   obtain⟨hlt',hp'⟩:=q8.1 hp
   obtain⟨t1,t2,t3,t4,t5,t6⟩:=T3.ok_iff.1 (Q2t z4 hp)
   have ga:=Mesh.v_get t2 (by omega)
   have gb:=Mesh.v_get t4 (by omega)
   have gc:=Mesh.v_get t6 (by omega)
   have hr:m.corners i=.t [(m.v t.a).enc,(m.v t.b).enc,(m.v t.c).enc,.b true]:=by
    simp only[Mesh.corners,h0,h1,hz,and_self,if_true,hp]
   rw[hr]
   simp[go_sem,hz,h0,h1,hlt,hp',tcs,vcs,t1,t2,t3,t4,t5,t6,show t.a.toNat<m.verts.length by omega,show t.b.toNat<m.verts.length by omega,show t.c.toNat<m.verts.length by omega,ga,gb,gc,L0a.r,V3.enc]
  ·simp[go_sem,hz,L0a.r,Mesh.corners,zV3]
 ·have:i<0∨(m.tris.length:Int)<=i:=by omega
  have hr:m.corners i=.t [zV3,zV3,zV3,.b false]:=by
   unfold Mesh.corners;rw[if_neg (by omega)]
  rw[hr]
  by_cases h0:i<0
  ·simp[go_sem,Mesh.enc,Mesh.cs,vsV,tsV,h0,L0a.r,zV3]
  ·simp[go_sem,Mesh.enc,Mesh.cs,vsV,tsV,h0,show (m.tris.length:Int)<=i by omega,L0a.r,zV3]
end
theorem Mesh.v_valid {m:Mesh} (h:Yb m.verts=true) {i:Int} (hi:i<m.verts.length):(m.v i).valid=true:=by
 unfold Mesh.v
 cases hp:m.verts[i.toNat]? with
 | none=>rfl
 | some p=>exact Ij h hp
structure LtOrd {α:Type} (lt:α->α->Prop):Prop where
 irr:∀a,¬ lt a a
 tr:∀{a b c},lt a b->lt b c->lt a c
 tot:∀{a b},¬ lt a b->¬ lt b a->a=b
section
variable {α:Type} {lt:α->α->Prop} (O:LtOrd lt)
include O
theorem LtOrd.asymm {a b:α} (h1:lt a b):¬ lt b a:=λh2=>O.irr a (O.tr h1 h2)
theorem Km:∀{l1 l2:List α},l1.Pairwise lt->l2.Pairwise lt->(∀a,a∈l1↔a∈l2)->l1=l2
 | [],[],_,_,_=>rfl
 | [],y::l2,_,_,h=>by have:=(h y).2 (by simp);simp at this
 | x::l1,[],_,_,h=>by have:=(h x).1 (by simp);simp at this
 | x::l1,y::l2,h1,h2,h=>by
   have p1:=j9.1 h1
   have p2:=j9.1 h2
   have hxy:x=y:=by
    rcases List.mem_cons.1 ((h x).1 (by simp)) with h3 | h3
    ·exact h3
    ·rcases List.mem_cons.1 ((h y).2 (by simp)) with h4 | h4
     ·exact h4.symm
     ·exact absurd (p2.1 x h3) (O.asymm (p1.1 y h4))
   subst hxy
   rw[Km p1.2 p2.2 λa=>?_]
   constructor
   ·intro ha
    rcases List.mem_cons.1 ((h a).1 (by simp[ha])) with h3 | h3
    ·subst h3;exact absurd (p1.1 a ha) (O.irr a)
    ·exact h3
   ·intro ha
    rcases List.mem_cons.1 ((h a).2 (by simp[ha])) with h3 | h3
    ·subst h3;exact absurd (p2.1 a ha) (O.irr a)
    ·exact h3
theorem K0 {l:List α} (h:l.Pairwise lt):l.Nodup:=h.imp λh1 h2=>by subst h2;exact O.irr _ h1
theorem Q54 {ys:List α} (hs:ys.Pairwise λa b=>¬ lt b a) (hn:ys.Nodup):ys.Pairwise lt :=
 (List.Pairwise.and hs hn).imp λh=>Classical.byContradiction λh3=>h.2 (O.tot h3 h.1)
end
section
variable {α:Type} [DecidableEq α] {lt:α->α->Prop} [DecidableRel lt]
def Qak (lt:α->α->Prop) [DecidableRel lt] (e:α):List α->List α
 | []=>[e]
 | x::l=>if e=x then x::l else if lt e x then e::x::l else x::Qak lt e l
def Qdw (lt:α->α->Prop) [DecidableRel lt] (l:List α):List α:=l.foldr (Qak lt) []
theorem mem_insG {e a:α}:∀{l:List α},a∈Qak lt e l↔a=e∨a∈l
 | []=>by simp[Qak]
 | x::l=>by
   simp only[Qak]
   split
   ·rename_i h;subst h;simp
   ·split
    ·simp
    ·simp[mem_insG];constructor<;>(rintro (h | h | h)<;>simp[h])
theorem Qaj (O:LtOrd lt) {e:α}:∀{l:List α},l.Pairwise lt->(Qak lt e l).Pairwise lt
 | [],_=>by simp[Qak]
 | x::l,h=>by
   have hc:=j9.1 h
   simp only[Qak]
   split
   ·exact h
   ·split
    ·rename_i h1 h2
     refine j9.2 ⟨λb hb=>?_,h⟩
     rcases List.mem_cons.1 hb with rfl | hb
     ·exact h2
     ·exact O.tr h2 (hc.1 b hb)
    ·rename_i h1 h2
     refine j9.2 ⟨λb hb=>?_,Qaj O hc.2⟩
     rcases mem_insG.1 hb with rfl | hb
     ·exact j7 λh3=>h1 (O.tot h2 h3)
     ·exact hc.1 b hb
theorem Bx (O:LtOrd lt) (l:List α):(Qdw lt l).Pairwise lt:=by
 induction l with
 | nil=>simp[Qdw]
 | cons x l ih=>exact Qaj O ih
theorem Bh {l:List α} {a:α}:a∈Qdw lt l↔a∈l:=by
 induction l with
 | nil=>simp[Qdw]
 | cons x l ih=>simp only[Qdw,List.foldr_cons,mem_insG,List.mem_cons];rw[<- ih];rfl
theorem Q92 (O:LtOrd lt) {ys xs:List α} (hp:ys.Perm xs) (hn:xs.Nodup) (hs:ys.Pairwise λa b=>¬ lt b a):ys=Qdw lt xs:=by
 refine Km O (Q54 O hs (hp.symm.nodup hn)) (Bx O xs) λa=>by rw[hp.mem_iff,Bh]
end
def V3.lt (a b:V3):Prop:=a.x<b.x∨(a.x=b.x/\(a.y<b.y∨(a.y=b.y/\a.z<b.z)))
instance:DecidableRel V3.lt:=λa b=>by unfold V3.lt;infer_instance
theorem V3.ltO:LtOrd V3.lt where
 irr a:=by unfold V3.lt;omega
 tr h1 h2:=by unfold V3.lt at *;omega
 tot {a b} h h':=by
  unfold V3.lt at *
  have h1:a.x=b.x:=by omega
  have h2:a.y=b.y:=by omega
  have h3:a.z=b.z:=by omega
  cases a;cases b;simp_all
theorem Q40 {α:Type} [DecidableEq α]:∀{l k:List α},l.Nodup->(∀a∈l,a∈k)->l.length<=k.length
 | [],k,_,_=>by simp
 | x::l,k,hn,hs=>by
   have hc:=List.nodup_cons.1 hn
   have hx:=hs x (by simp)
   have:=Q40 (l:=l) (k:=k.erase x) hc.2 (λa ha=>by
    have hne:a≠x:=by rintro rfl;exact hc.1 ha
    exact(List.mem_erase_of_ne hne).2 (hs a (by simp[ha])))
   rw[List.length_erase_of_mem hx]at this
   have:=List.length_pos_of_mem hx
   simp only[List.length_cons];omega
def Mesh.cor (m:Mesh) (t:T3):List V3:=[m.v t.a,m.v t.b,m.v t.c]
def Mesh.usedL (m:Mesh) (ts:List T3):List V3:=ts.flatMap m.cor
def Mesh.wverts (m:Mesh):List V3:=Qdw V3.lt (m.usedL m.tris)
def Xg (l:List V3) (v:V3):Int:=(l.idxOf v:Nat)
def K3 (m:Mesh) (W:List V3) (t:T3):T3:=⟨Xg W (m.v t.a),Xg W (m.v t.b),Xg W (m.v t.c)⟩
def Mesh.weldM (m:Mesh):Mesh:=⟨m.wverts,m.tris.map (K3 m m.wverts)⟩
theorem Zu (m:Mesh):m.wverts.Pairwise V3.lt:=Bx V3.ltO _
theorem mem_wverts {m:Mesh} {v:V3}:v∈m.wverts↔∃t∈m.tris,v∈m.cor t:=by
 unfold Mesh.wverts Mesh.usedL
 rw[Bh,jk]
theorem Mesh.v_mem {m:Mesh} {i:Int} (h0:0<=i) (hi:i<m.verts.length):m.v i∈m.verts:=by
 have hlt:i.toNat<m.verts.length:=by omega
 have:m.verts[i.toNat]?=some (m.v i):=by rw[q9 hlt,m.v_get hi hlt]
 exact qb this
theorem Q4i {l:List V3} {v:V3} (h:v∈l):l[(Xg l v).toNat]?=some v:=by
 have hlt:=List.idxOf_lt_length_iff.2 h
 unfold Xg
 rw[Int.toNat_natCast,q9 hlt,List.getElem_idxOf hlt]
theorem Ju {l:List V3} {v:V3} (h:v∈l):0<=Xg l v/\Xg l v<l.length:=by
 have hlt:=List.idxOf_lt_length_iff.2 h
 unfold Xg;omega
theorem K6 {l:List V3} (hn:l.Nodup) {i:Nat} {v:V3} (h:l[i]?=some v):Xg l v=i:=by
 obtain⟨hlt,rfl⟩:=q8.1 h
 unfold Xg
 rw[hn.idxOf_getElem]
theorem tok {m:Mesh} (h:m.check=0) {t:T3} (ht:t∈m.tris):0<=t.a/\t.a<m.verts.length/\0<=t.b/\t.b<m.verts.length/\0<=t.c/\t.c<m.verts.length :=
 T3.ok_iff.1 (qj.1 (Mesh.check_zero.1 h).2.2.2 t ht)
theorem Ea {m:Mesh} (h:m.check=0):m.wverts.length<=m.verts.length:=by
 refine Q40 (K0 V3.ltO (Zu m)) λa ha=>?_
 obtain⟨t,ht,hv⟩:=mem_wverts.1 ha
 obtain⟨h1,h2,h3,h4,h5,h6⟩:=tok h ht
 simp only[Mesh.cor,List.mem_cons,List.not_mem_nil,or_false]at hv
 rcases hv with rfl | rfl | rfl
 ·exact Mesh.v_mem h1 h2
 ·exact Mesh.v_mem h3 h4
 ·exact Mesh.v_mem h5 h6
theorem Q03 {m:Mesh} {v:V3} (h:v∈m.wverts):m.weldM.v (Xg m.wverts v)=v:=by
 show (m.wverts[(Xg m.wverts v).toNat]?).getD _=v
 rw[Q4i h];rfl
theorem Uq {m:Mesh} {t:T3} (ht:t∈m.tris):m.v t.a∈m.wverts/\m.v t.b∈m.wverts/\m.v t.c∈m.wverts:=by
 refine⟨mem_wverts.2 ⟨t,ht,?_⟩,mem_wverts.2 ⟨t,ht,?_⟩,mem_wverts.2 ⟨t,ht,?_⟩⟩<;>simp[Mesh.cor]
theorem Q9e {m:Mesh} {t:T3} (ht:t∈m.tris):m.weldM.cor (K3 m m.wverts t)=m.cor t:=by
 obtain⟨h1,h2,h3⟩:=Uq ht
 simp only[Mesh.cor,K3,Q03 h1,Q03 h2,Q03 h3]
theorem Eb {m:Mesh} (h:m.check=0):m.weldM.check=0:=by
 obtain⟨z1,z2,z3,z4⟩:=Mesh.check_zero.1 h
 refine Mesh.check_zero.2 ⟨by have:=Ea h;simp only[Mesh.weldM];omega,by simpa[Mesh.weldM]using z2,?_,?_⟩
 ·simp only[Mesh.weldM,Yb,qj]
  intro v hv
  obtain⟨t,ht,hv⟩:=mem_wverts.1 hv
  obtain⟨h1,h2,h3,h4,h5,h6⟩:=tok h ht
  simp only[Mesh.cor,List.mem_cons,List.not_mem_nil,or_false]at hv
  rcases hv with rfl | rfl | rfl
  ·exact Mesh.v_valid z3 h2
  ·exact Mesh.v_valid z3 h4
  ·exact Mesh.v_valid z3 h6
 ·simp only[Mesh.weldM,Jl,qj,qp]
  rintro _ ⟨t,ht,rfl⟩
  obtain⟨h1,h2,h3⟩:=Uq ht
  have r1:=Ju h1
  have r2:=Ju h2
  have r3:=Ju h3
  exact T3.ok_iff.2 ⟨r1.1,r1.2,r2.1,r2.2,r3.1,r3.2⟩
theorem Qfp {m:Mesh} (h:m.check=0):m.weldM.weldM=m.weldM:=by
 have hv:m.weldM.wverts=m.wverts:=by
  refine Km V3.ltO (Zu _) (Zu _) λv=>?_
  rw[mem_wverts,mem_wverts]
  constructor
  ·rintro⟨t,ht,hv⟩
   obtain⟨s,hs,rfl⟩:=qp.1 (show t∈m.tris.map _ from ht)
   rw[Q9e hs]at hv
   exact⟨s,hs,hv⟩
  ·rintro⟨s,hs,hv⟩
   exact⟨K3 m m.wverts s,qp.2 ⟨s,hs,rfl⟩,by rw[Q9e hs];exact hv⟩
 have ht:m.weldM.tris.map (K3 m.weldM m.wverts)=m.weldM.tris:=by
  show (m.tris.map (K3 m m.wverts)).map _=m.tris.map _
  rw[List.map_map]
  refine jl λt ht=>?_
  obtain⟨h1,h2,h3⟩:=Uq ht
  simp only[Function.comp,K3,Q03 h1,Q03 h2,Q03 h3]
 show Mesh.mk m.weldM.wverts (m.weldM.tris.map (K3 m.weldM m.weldM.wverts))=_
 rw[hv,ht];rfl
def T3.lt (s t:T3):Prop:=s.a<t.a∨(s.a=t.a/\(s.b<t.b∨(s.b=t.b/\s.c<t.c)))
instance:DecidableRel T3.lt:=λa b=>by unfold T3.lt;infer_instance
theorem T3.ltO:LtOrd T3.lt where
 irr a:=by unfold T3.lt;omega
 tr h1 h2:=by unfold T3.lt at *;omega
 tot {a b} h h':=by
  unfold T3.lt at *
  have h1:a.a=b.a:=by omega
  have h2:a.b=b.b:=by omega
  have h3:a.c=b.c:=by omega
  cases a;cases b;simp_all
def T3.rot (t:T3):T3:=⟨t.b,t.c,t.a⟩
def T3.least (x t:T3):T3:=if T3.lt t x then t else x
def T3.turned (t:T3):T3:=T3.least (T3.least t t.rot) t.rot.rot
def T3.twins (a b:T3):Bool:=decide (a=b) || (decide (a=b.rot) || decide (a=b.rot.rot))
theorem T3.rot3 (t:T3):t.rot.rot.rot=t:=rfl
theorem Q6f (x t:T3):T3.least x t=x∨T3.least x t=t:=by unfold T3.least;split<;>simp
theorem Qac (x t:T3):¬ T3.lt x (T3.least x t)/\¬ T3.lt t (T3.least x t):=by
 unfold T3.least
 split
 ·rename_i h;exact⟨T3.ltO.asymm h,T3.ltO.irr _⟩
 ·rename_i h;exact⟨T3.ltO.irr _,h⟩
theorem Kr (t:T3):t.turned=t∨t.turned=t.rot∨t.turned=t.rot.rot:=by
 unfold T3.turned
 rcases Q6f (T3.least t t.rot) t.rot.rot with h | h<;>rw[h]
 ·rcases Q6f t t.rot with h | h<;>rw[h]<;>simp
 ·simp
theorem Bb {a b c:T3} (h1:¬ T3.lt a b) (h2:¬ T3.lt b c):¬ T3.lt a c:=by unfold T3.lt at *;omega
theorem Q67 (t:T3):¬ T3.lt t t.turned/\¬ T3.lt t.rot t.turned/\¬ T3.lt t.rot.rot t.turned:=by
 unfold T3.turned
 have h1:=Qac t t.rot
 have h2:=Qac (T3.least t t.rot) t.rot.rot
 exact⟨Bb h1.1 h2.1,Bb h1.2 h2.1,h2.2⟩
theorem Ee (t:T3):t.rot.turned=t.turned:=by
 have h1:=Q67 t
 have h2:=Q67 t.rot
 rw[T3.rot3]at h2
 refine T3.ltO.tot ?_ ?_
 ·rcases Kr t.rot with h | h | h
  ·rw[h];exact h1.2.1
  ·rw[h];exact h1.2.2
  ·rw[h,T3.rot3];exact h1.1
 ·rcases Kr t with h | h | h
  ·rw[h];exact h2.2.2
  ·rw[h];exact h2.1
  ·rw[h];exact h2.2.1
theorem turned_iff {a b:T3}:a.turned=b.turned↔a.twins b=true:=by
 simp only[T3.twins,Bool.or_eq_true,decide_eq_true_eq]
 constructor
 ·intro h
  have key:∀t:T3,t=t.turned∨t=t.turned.rot∨t=t.turned.rot.rot:=by
   intro t
   rcases Kr t with h | h | h
   ·left;exact h.symm
   ·right;right;rw[h];rfl
   ·right;left;rw[h];rfl
  have ka:=key a
  rcases Kr b with hb | hb | hb<;>rw[h,hb]at ka<;>try simp only[T3.rot3]at ka
  ·exact ka
  ·rcases ka with k | k | k
   ·exact .inr (.inl k)
   ·exact .inr (.inr k)
   ·exact .inl k
  ·rcases ka with k | k | k
   ·exact .inr (.inr k)
   ·exact .inl k
   ·exact .inr (.inl k)
 ·rintro (rfl | rfl | rfl)
  ·rfl
  ·exact Ee b
  ·rw[Ee,Ee]
def V3.sub (a b:V3):V3:=⟨a.x-b.x,a.y-b.y,a.z-b.z⟩
def V3.crs (a b:V3):V3:=⟨a.y*b.z-a.z*b.y,a.z*b.x-a.x*b.z,a.x*b.y-a.y*b.x⟩
def Kb (a b c:V3):Bool:=a.valid && (b.valid && (c.valid && decide ((b.sub a).crs (c.sub a)=⟨0,0,0⟩)))
def Mesh.deg (m:Mesh) (t:T3):Bool:=Kb (m.v t.a) (m.v t.b) (m.v t.c)
structure Cl where
 out:List T3
 deg:Nat
 twin:Nat
def Cl.step (dg:T3->Bool) (s:Cl) (t:T3):Cl:=if dg t then ⟨s.out,s.deg+1,s.twin⟩ else if s.out.any (T3.twins t) then ⟨s.out,s.deg,s.twin+1⟩ else ⟨s.out++[t],s.deg,s.twin⟩
def Qr (dg:T3->Bool) (ts:List T3):Cl:=ts.foldl (Cl.step dg) ⟨[],0,0⟩
theorem U8 (dg:T3->Bool) (ts:List T3) (t:T3):Qr dg (ts++[t])=(Qr dg ts).step dg t:=by simp[Qr]
theorem Qb9 (dg:T3->Bool) {ts:List T3} {k:Nat} {t:T3} (h:ts[k]?=some t):Qr dg (ts.take (k+1))=(Qr dg (ts.take k)).step dg t:=by
 rw[List.take_add_one,h];exact U8 dg _ t
def Mesh.cleanM (m:Mesh):Mesh:=⟨m.verts,(Qr m.deg m.tris).out⟩
structure ClOk (dg:T3->Bool) (ts:List T3) (s:Cl):Prop where
 sub:s.out.Sublist ts
 sum:s.out.length+s.deg+s.twin=ts.length
 deg:∀t∈s.out,dg t=false
 twin:s.out.Pairwise λa b=>b.twins a=false
theorem Kl (dg:T3->Bool) (ts:List T3):ClOk dg ts (Qr dg ts):=by
 refine Ui (p:=λts=>ClOk dg ts (Qr dg ts)) ?_ ?_ ts
 ·exact⟨.slnil,rfl,by simp[Qr],by simp[Qr]⟩
 ·intro E x ih
  rw[U8]
  unfold Cl.step
  have hs:=ih.sum
  split
  ·exact⟨ih.sub.trans (List.sublist_append_left _ _),by simp;omega,ih.deg,ih.twin⟩
  ·rename_i hd
   split
   ·exact⟨ih.sub.trans (List.sublist_append_left _ _),by simp;omega,ih.deg,ih.twin⟩
   ·rename_i ht
    refine⟨ih.sub.append (List.Sublist.refl _),by simp;omega,λt h=>?_,?_⟩
    ·rcases qg.1 h with h | h
     ·exact ih.deg t h
     ·simp at h;subst h;simpa using hd
    ·simp only
     rw[jc]
     refine⟨ih.twin,by simp,λa ha b hb=>?_⟩
     simp at hb;subst hb
     rw[Bool.eq_false_iff]
     intro h
     exact ht (List.any_eq_true.2 ⟨a,ha,h⟩)
end Go.Abs
