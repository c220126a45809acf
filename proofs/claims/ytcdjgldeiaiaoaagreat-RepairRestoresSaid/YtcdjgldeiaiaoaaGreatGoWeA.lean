/- Part of the library on which the proof stands: an abstract machine, its values and its soundness against the model; or what functions of the program do to such values. -/
import Derived.Test.YtcdjgldeiaiaoaaGreatGoLq
import Derived.Test.YtcdjgldeiaiaoaaGreatGoOriD
import Derived.Test.YtcdjgldeiaiaoaaGreatGoRevC
import Derived.Test.YtcdjgldeiaiaoaaGreatGoSch
import Derived.Test.YtcdjgldeiaiaoaaGreatGoSet
import Derived.Test.YtcdjgldeiaiaoaaGreatGoHeap
set_option linter.unusedVariables false
set_option linter.unusedSimpArgs false
set_option maxHeartbeats 1000000
set_option maxRecDepth 4000
namespace Go.Abs
def net (E:List P2) (e:P2):Int:=(E.count e:Int)-(E.count e.rev:Int)
theorem Qam {l k:List Int} (hl:l.Nodup) (hk:k.Nodup) (h:∀v,v∈l↔v∈k):l.Perm k:=by
 rw[List.perm_iff_count]
 intro v
 have c:∀{l:List Int},l.Nodup->l.count v=if v∈l then 1 else 0:=λ{l} hl=>by
  by_cases he:v∈l
  ·rw[if_pos he]
   have h1:=List.count_pos_iff.2 he
   have h2:=List.nodup_iff_count.1 hl v
   omega
  ·rw[if_neg he];exact List.count_eq_zero.2 he
 rw[c hl,c hk]
 by_cases hv:v∈l
 ·rw[if_pos hv,if_pos ((h v).1 hv)]
 ·rw[if_neg hv,if_neg (λhh=>hv ((h v).2 hh))]
def Mesh.fillM (m:Mesh):Mesh:=⟨m.verts,m.tris++m.loops.1.flatMap Jg⟩
theorem Q8f {m:Mesh} (h:m.loops.2=0):m.check=0/\m.simple m.border=true/\m.loops.1=Xu m.border:=by
 unfold Mesh.loops at h ⊢
 by_cases hz:m.check=0
 ·rw[if_pos hz]at h ⊢
  by_cases hs:m.simple m.border=true
  ·rw[if_pos hs];exact⟨hz,hs,rfl⟩
  ·rw[if_neg hs]at h;simp at h
 ·rw[if_neg hz]at h;exact absurd h hz
theorem Qby {m:Mesh} (hz:m.check=0):m.border=[]↔∀e,net (Qa m.tris) e=0:=by
 have hu:∀e,m.use e=(Qa m.tris).count e:=λe=>by simp[Mesh.use,hz]
 constructor
 ·intro hb e
  have hc:m.closed=true:=by simp[Mesh.closed,hz,hb]
  have k:∀e,m.use e<=m.use e.rev:=λe=>by
   refine j7 λhlt=>?_
   have p2:0<=m.use e.rev:=by rw[hu];omega
   have:e∈m.border:=mem_border.2 ⟨hz,(Q5e hz).2 (by omega),by omega⟩
   rw[hb]at this;simp at this
  have k1:=k e
  have k2:=k e.rev
  rw[P2.rev2]at k2
  unfold net
  rw[hu,hu]at k1 k2
  omega
 ·intro h
  rw[List.eq_nil_iff_forall_not_mem]
  intro e he
  have h1:=(mem_border.1 he).2.2
  have h2:=h e
  unfold net at h2
  rw[hu,hu]at h1
  omega
theorem Q67 {m:Mesh} (hz:m.check=0) (hb:m.border=[]):m.loops=([],0):=by
 unfold Mesh.loops
 rw[if_pos hz,hb];rfl
def Qy (m:Mesh):Mesh × Int × Int:=if m.loops.2=0 then (if m.fillM.tris.length<=4096 then (m.fillM,m.loops.1.length,0) else (Z0,0,2)) else (Z0,0,m.loops.2)
def Ie (r:Mesh × Int × Int):V:=.t [r.1.enc,.i .i64 r.2.1,.i .i64 r.2.2]
def Qlh (P:Program) (f:FuncId):Prop:=∀m:Mesh,CallIs P f [m.enc] (Ie (Qy m))
theorem Q4p {m:Mesh} (h:m.loops.2=0):(m.loops.1.map List.length).sum=m.border.length:=by
 obtain⟨hz,hs,hls⟩:=Q8f h
 have hL:=Q4q hz hs
 have hx:=Ul hs (Xj m)
 have hp:=Qam hL.nodup hx hL.mem
 rw[hls,<- List.length_flatten,hp.length_eq,List.length_map]
theorem Qf0 {x y A B:Int} (h1:-A<=x) (h2:x<=A) (h3:-B<=y) (h4:y<=B):-(A*B)<=x*y/\x*y<=A*B:=by
 have hA:0<=A:=by omega
 have hB:0<=B:=by omega
 have h5:=Nat.mul_le_mul (show x.natAbs<=A.natAbs by omega) (show y.natAbs<=B.natAbs by omega)
 rw[<- Int.natAbs_mul,<- Int.natAbs_mul]at h5
 have h6:0<=A*B:=Int.mul_nonneg hA hB
 omega
instance:Inhabited V3:=⟨⟨0,0,0⟩⟩
def Mesh.v (m:Mesh) (i:Int):V3:=m.verts[i.toNat]?.getD ⟨0,0,0⟩
theorem Mesh.v_get {m:Mesh} {i:Int} (h1:i<m.verts.length) (h:i.toNat<m.verts.length):m.verts[i.toNat]=m.v i:=by simp[Mesh.v,h]
def zV3:V:=.a [.i .i64 0,.i .i64 0,.i .i64 0]
def Mesh.corners (m:Mesh) (i:Int):V :=
 if 0<=i/\i<m.tris.length/\m.check=0 then match m.tris[i.toNat]? with
  | some t=>.t [(m.v t.a).enc,(m.v t.b).enc,(m.v t.c).enc,.b true]
  | none=>.any
 else .t [zV3,zV3,zV3,.b false]
def Q3j (P:Program) (f:FuncId):Prop:=∀(m:Mesh) (i:Int),CallIs P f [m.enc,.i .i64 i] (m.corners i)
section
variable {P:Program} (hm:P.follows .mixedOrders=true)
include hm
theorem Q0q {f fc:FuncId} (hf:Qb P f (L09.c fc) L09.r L09.n) (hc:Y3 P fc):Q3j P f:=by
 intro m i
 refine PureC.is (Q9 hm hf (qh rfl) ?_) rfl
 unfold L09.c
 by_cases h:0<=i/\i<m.tris.length
 ·obtain⟨h0,h1⟩:=h
  have hlt:i.toNat<m.tris.length:=by omega
  simp[go_sem,Mesh.enc,Mesh.cs,vsV,tsV,show ¬ i<0 by omega,show ¬ (m.tris.length:Int)<=i by omega]
  refine Q6 (hc m) ?_
  by_cases hz:m.check=0
  ·obtain⟨z1,z2,z3,z4⟩:=Mesh.check_zero.1 hz
   obtain⟨t,hp⟩:∃t,m.tris[i.toNat]?=some t:=⟨_,q9 hlt⟩
   obtain⟨hlt',hp'⟩:=q8.1 hp
   obtain⟨t1,t2,t3,t4,t5,t6⟩:=T3.ok_iff.1 (Q1e z4 hp)
   have ga:=Mesh.v_get t2 (by omega)
   have gb:=Mesh.v_get t4 (by omega)
   have gc:=Mesh.v_get t6 (by omega)
   have hr:m.corners i=.t [(m.v t.a).enc,(m.v t.b).enc,(m.v t.c).enc,.b true]:=by
    simp only[Mesh.corners,h0,h1,hz,and_self,if_true,hp]
   rw[hr]
   simp[go_sem,hz,h0,h1,hlt,hp',tcs,vcs,t1,t2,t3,t4,t5,t6,show t.a.toNat<m.verts.length by omega,show t.b.toNat<m.verts.length by omega,show t.c.toNat<m.verts.length by omega,ga,gb,gc,L09.r,V3.enc]
  ·simp[go_sem,hz,L09.r,Mesh.corners,zV3]
 ·have:i<0∨(m.tris.length:Int)<=i:=by omega
  have hr:m.corners i=.t [zV3,zV3,zV3,.b false]:=by
   unfold Mesh.corners;rw[if_neg (by omega)]
  rw[hr]
  by_cases h0:i<0
  ·simp[go_sem,Mesh.enc,Mesh.cs,vsV,tsV,h0,L09.r,zV3]
  ·simp[go_sem,Mesh.enc,Mesh.cs,vsV,tsV,h0,show (m.tris.length:Int)<=i by omega,L09.r,zV3]
end
structure LtOrd {α:Type} (lt:α->α->Prop):Prop where
 irr:∀a,¬ lt a a
 tr:∀{a b c},lt a b->lt b c->lt a c
 tot:∀{a b},¬ lt a b->¬ lt b a->a=b
section
variable {α:Type} {lt:α->α->Prop} (O:LtOrd lt)
include O
theorem LtOrd.asymm {a b:α} (h1:lt a b):¬ lt b a:=λh2=>O.irr a (O.tr h1 h2)
theorem Jz:∀{l1 l2:List α},l1.Pairwise lt->l2.Pairwise lt->(∀a,a∈l1↔a∈l2)->l1=l2
 | [],[],_,_,_=>rfl
 | [],y::l2,_,_,h=>by have:=(h y).2 (by simp);simp at this
 | x::l1,[],_,_,h=>by have:=(h x).1 (by simp);simp at this
 | x::l1,y::l2,h1,h2,h=>by
   have p1:=j9.1 h1
   have p2:=j9.1 h2
   have hxy:x=y:=by
    rcases List.mem_cons.1 ((h x).1 (by simp)) with h3 | h3
    ·exact h3
    ·rcases List.mem_cons.1 ((h y).2 (by simp)) with h4 | h4
     ·exact h4.symm
     ·exact absurd (p2.1 x h3) (O.asymm (p1.1 y h4))
   subst hxy
   rw[Jz p1.2 p2.2 λa=>?_]
   constructor
   ·intro ha
    rcases List.mem_cons.1 ((h a).1 (by simp[ha])) with h3 | h3
    ·subst h3;exact absurd (p1.1 a ha) (O.irr a)
    ·exact h3
   ·intro ha
    rcases List.mem_cons.1 ((h a).2 (by simp[ha])) with h3 | h3
    ·subst h3;exact absurd (p2.1 a ha) (O.irr a)
    ·exact h3
theorem Jk {l:List α} (h:l.Pairwise lt):l.Nodup:=h.imp λh1 h2=>by subst h2;exact O.irr _ h1
theorem Q3e {ys:List α} (hs:ys.Pairwise λa b=>¬ lt b a) (hn:ys.Nodup):ys.Pairwise lt :=
 (List.Pairwise.and hs hn).imp λh=>Classical.byContradiction λh3=>h.2 (O.tot h3 h.1)
end
section
variable {α:Type} [DecidableEq α] {lt:α->α->Prop} [DecidableRel lt]
def Q8p (lt:α->α->Prop) [DecidableRel lt] (e:α):List α->List α
 | []=>[e]
 | x::l=>if e=x then x::l else if lt e x then e::x::l else x::Q8p lt e l
def Qbz (lt:α->α->Prop) [DecidableRel lt] (l:List α):List α:=l.foldr (Q8p lt) []
theorem mem_insG {e a:α}:∀{l:List α},a∈Q8p lt e l↔a=e∨a∈l
 | []=>by simp[Q8p]
 | x::l=>by
   simp only[Q8p]
   split
   ·rename_i h;subst h;simp
   ·split
    ·simp
    ·simp[mem_insG];constructor<;>(rintro (h | h | h)<;>simp[h])
theorem Q8o (O:LtOrd lt) {e:α}:∀{l:List α},l.Pairwise lt->(Q8p lt e l).Pairwise lt
 | [],_=>by simp[Q8p]
 | x::l,h=>by
   have hc:=j9.1 h
   simp only[Q8p]
   split
   ·exact h
   ·split
    ·rename_i h1 h2
     refine j9.2 ⟨λb hb=>?_,h⟩
     rcases List.mem_cons.1 hb with rfl | hb
     ·exact h2
     ·exact O.tr h2 (hc.1 b hb)
    ·rename_i h1 h2
     refine j9.2 ⟨λb hb=>?_,Q8o O hc.2⟩
     rcases mem_insG.1 hb with rfl | hb
     ·exact j7 λh3=>h1 (O.tot h2 h3)
     ·exact hc.1 b hb
theorem Il (O:LtOrd lt) (l:List α):(Qbz lt l).Pairwise lt:=by
 induction l with
 | nil=>simp[Qbz]
 | cons x l ih=>exact Q8o O ih
theorem I6 {l:List α} {a:α}:a∈Qbz lt l↔a∈l:=by
 induction l with
 | nil=>simp[Qbz]
 | cons x l ih=>simp only[Qbz,List.foldr_cons,mem_insG,List.mem_cons];rw[<- ih];rfl
theorem Q7a (O:LtOrd lt) {ys xs:List α} (hp:ys.Perm xs) (hn:xs.Nodup) (hs:ys.Pairwise λa b=>¬ lt b a):ys=Qbz lt xs:=by
 refine Jz O (Q3e O hs (hp.symm.nodup hn)) (Il O xs) λa=>by rw[hp.mem_iff,I6]
end
def V3.lt (a b:V3):Prop:=a.x<b.x∨(a.x=b.x/\(a.y<b.y∨(a.y=b.y/\a.z<b.z)))
instance:DecidableRel V3.lt:=λa b=>by unfold V3.lt;infer_instance
theorem V3.ltO:LtOrd V3.lt where
 irr a:=by unfold V3.lt;omega
 tr h1 h2:=by unfold V3.lt at *;omega
 tot {a b} h h':=by
  unfold V3.lt at *
  have h1:a.x=b.x:=by omega
  have h2:a.y=b.y:=by omega
  have h3:a.z=b.z:=by omega
  cases a;cases b;simp_all
theorem Q2i {α:Type} [DecidableEq α]:∀{l k:List α},l.Nodup->(∀a∈l,a∈k)->l.length<=k.length
 | [],k,_,_=>by simp
 | x::l,k,hn,hs=>by
   have hc:=List.nodup_cons.1 hn
   have hx:=hs x (by simp)
   have:=Q2i (l:=l) (k:=k.erase x) hc.2 (λa ha=>by
    have hne:a≠x:=by rintro rfl;exact hc.1 ha
    exact(List.mem_erase_of_ne hne).2 (hs a (by simp[ha])))
   rw[List.length_erase_of_mem hx]at this
   have:=List.length_pos_of_mem hx
   simp only[List.length_cons];omega
def Mesh.cor (m:Mesh) (t:T3):List V3:=[m.v t.a,m.v t.b,m.v t.c]
def Mesh.usedL (m:Mesh) (ts:List T3):List V3:=ts.flatMap m.cor
def Mesh.wverts (m:Mesh):List V3:=Qbz V3.lt (m.usedL m.tris)
def Kf (l:List V3) (v:V3):Int:=(l.idxOf v:Nat)
def K8 (m:Mesh) (W:List V3) (t:T3):T3:=⟨Kf W (m.v t.a),Kf W (m.v t.b),Kf W (m.v t.c)⟩
def Mesh.weldM (m:Mesh):Mesh:=⟨m.wverts,m.tris.map (K8 m m.wverts)⟩
theorem Y5 (m:Mesh):m.wverts.Pairwise V3.lt:=Il V3.ltO _
theorem mem_wverts {m:Mesh} {v:V3}:v∈m.wverts↔∃t∈m.tris,v∈m.cor t:=by
 unfold Mesh.wverts Mesh.usedL
 rw[I6,jh]
theorem Mesh.v_mem {m:Mesh} {i:Int} (h0:0<=i) (hi:i<m.verts.length):m.v i∈m.verts:=by
 have hlt:i.toNat<m.verts.length:=by omega
 have:m.verts[i.toNat]?=some (m.v i):=by rw[q9 hlt,m.v_get hi hlt]
 exact qb this
theorem Q8q {l:List V3} {v:V3} (h:v∈l):l[(Kf l v).toNat]?=some v:=by
 have hlt:=List.idxOf_lt_length_iff.2 h
 unfold Kf
 rw[Int.toNat_natCast,q9 hlt,List.getElem_idxOf hlt]
theorem Qb9 {l:List V3} {v:V3} (h:v∈l):0<=Kf l v/\Kf l v<l.length:=by
 have hlt:=List.idxOf_lt_length_iff.2 h
 unfold Kf;omega
theorem Jo {l:List V3} (hn:l.Nodup) {i:Nat} {v:V3} (h:l[i]?=some v):Kf l v=i:=by
 obtain⟨hlt,rfl⟩:=q8.1 h
 unfold Kf
 rw[hn.idxOf_getElem]
theorem tok {m:Mesh} (h:m.check=0) {t:T3} (ht:t∈m.tris):0<=t.a/\t.a<m.verts.length/\0<=t.b/\t.b<m.verts.length/\0<=t.c/\t.c<m.verts.length :=
 T3.ok_iff.1 (qj.1 (Mesh.check_zero.1 h).2.2.2 t ht)
theorem Q14 {m:Mesh} (h:m.check=0):m.wverts.length<=m.verts.length:=by
 refine Q2i (Jk V3.ltO (Y5 m)) λa ha=>?_
 obtain⟨t,ht,hv⟩:=mem_wverts.1 ha
 obtain⟨h1,h2,h3,h4,h5,h6⟩:=tok h ht
 simp only[Mesh.cor,List.mem_cons,List.not_mem_nil,or_false]at hv
 rcases hv with rfl | rfl | rfl
 ·exact Mesh.v_mem h1 h2
 ·exact Mesh.v_mem h3 h4
 ·exact Mesh.v_mem h5 h6
theorem Iv {m:Mesh} {v:V3} (h:v∈m.wverts):m.weldM.v (Kf m.wverts v)=v:=by
 show (m.wverts[(Kf m.wverts v).toNat]?).getD _=v
 rw[Q8q h];rfl
theorem Q6y {m:Mesh} {t:T3} (ht:t∈m.tris):m.v t.a∈m.wverts/\m.v t.b∈m.wverts/\m.v t.c∈m.wverts:=by
 refine⟨mem_wverts.2 ⟨t,ht,?_⟩,mem_wverts.2 ⟨t,ht,?_⟩,mem_wverts.2 ⟨t,ht,?_⟩⟩<;>simp[Mesh.cor]
theorem Q7m {m:Mesh} {t:T3} (ht:t∈m.tris):m.weldM.cor (K8 m m.wverts t)=m.cor t:=by
 obtain⟨h1,h2,h3⟩:=Q6y ht
 simp only[Mesh.cor,K8,Iv h1,Iv h2,Iv h3]
theorem Qdr {m:Mesh} (h:m.check=0):m.weldM.weldM=m.weldM:=by
 have hv:m.weldM.wverts=m.wverts:=by
  refine Jz V3.ltO (Y5 _) (Y5 _) λv=>?_
  rw[mem_wverts,mem_wverts]
  constructor
  ·rintro⟨t,ht,hv⟩
   obtain⟨s,hs,rfl⟩:=qp.1 (show t∈m.tris.map _ from ht)
   rw[Q7m hs]at hv
   exact⟨s,hs,hv⟩
  ·rintro⟨s,hs,hv⟩
   exact⟨K8 m m.wverts s,qp.2 ⟨s,hs,rfl⟩,by rw[Q7m hs];exact hv⟩
 have ht:m.weldM.tris.map (K8 m.weldM m.wverts)=m.weldM.tris:=by
  show (m.tris.map (K8 m m.wverts)).map _=m.tris.map _
  rw[List.map_map]
  refine ji λt ht=>?_
  obtain⟨h1,h2,h3⟩:=Q6y ht
  simp only[Function.comp,K8,Iv h1,Iv h2,Iv h3]
 show Mesh.mk m.weldM.wverts (m.weldM.tris.map (K8 m.weldM m.weldM.wverts))=_
 rw[hv,ht];rfl
def T3.lt (s t:T3):Prop:=s.a<t.a∨(s.a=t.a/\(s.b<t.b∨(s.b=t.b/\s.c<t.c)))
instance:DecidableRel T3.lt:=λa b=>by unfold T3.lt;infer_instance
theorem T3.ltO:LtOrd T3.lt where
 irr a:=by unfold T3.lt;omega
 tr h1 h2:=by unfold T3.lt at *;omega
 tot {a b} h h':=by
  unfold T3.lt at *
  have h1:a.a=b.a:=by omega
  have h2:a.b=b.b:=by omega
  have h3:a.c=b.c:=by omega
  cases a;cases b;simp_all
def T3.rot (t:T3):T3:=⟨t.b,t.c,t.a⟩
def T3.least (x t:T3):T3:=if T3.lt t x then t else x
def T3.turned (t:T3):T3:=T3.least (T3.least t t.rot) t.rot.rot
def T3.twins (a b:T3):Bool:=decide (a=b) || (decide (a=b.rot) || decide (a=b.rot.rot))
theorem T3.rot3 (t:T3):t.rot.rot.rot=t:=rfl
theorem Wy (x t:T3):T3.least x t=x∨T3.least x t=t:=by unfold T3.least;split<;>simp
theorem Q8h (x t:T3):¬ T3.lt x (T3.least x t)/\¬ T3.lt t (T3.least x t):=by
 unfold T3.least
 split
 ·rename_i h;exact⟨T3.ltO.asymm h,T3.ltO.irr _⟩
 ·rename_i h;exact⟨T3.ltO.irr _,h⟩
theorem K9 (t:T3):t.turned=t∨t.turned=t.rot∨t.turned=t.rot.rot:=by
 unfold T3.turned
 rcases Wy (T3.least t t.rot) t.rot.rot with h | h<;>rw[h]
 ·rcases Wy t t.rot with h | h<;>rw[h]<;>simp
 ·simp
theorem I2 {a b c:T3} (h1:¬ T3.lt a b) (h2:¬ T3.lt b c):¬ T3.lt a c:=by unfold T3.lt at *;omega
theorem Q4h (t:T3):¬ T3.lt t t.turned/\¬ T3.lt t.rot t.turned/\¬ T3.lt t.rot.rot t.turned:=by
 unfold T3.turned
 have h1:=Q8h t t.rot
 have h2:=Q8h (T3.least t t.rot) t.rot.rot
 exact⟨I2 h1.1 h2.1,I2 h1.2 h2.1,h2.2⟩
theorem Uk (t:T3):t.rot.turned=t.turned:=by
 have h1:=Q4h t
 have h2:=Q4h t.rot
 rw[T3.rot3]at h2
 refine T3.ltO.tot ?_ ?_
 ·rcases K9 t.rot with h | h | h
  ·rw[h];exact h1.2.1
  ·rw[h];exact h1.2.2
  ·rw[h,T3.rot3];exact h1.1
 ·rcases K9 t with h | h | h
  ·rw[h];exact h2.2.2
  ·rw[h];exact h2.1
  ·rw[h];exact h2.2.1
theorem turned_iff {a b:T3}:a.turned=b.turned↔a.twins b=true:=by
 simp only[T3.twins,Bool.or_eq_true,decide_eq_true_eq]
 constructor
 ·intro h
  have key:∀t:T3,t=t.turned∨t=t.turned.rot∨t=t.turned.rot.rot:=by
   intro t
   rcases K9 t with h | h | h
   ·left;exact h.symm
   ·right;right;rw[h];rfl
   ·right;left;rw[h];rfl
  have ka:=key a
  rcases K9 b with hb | hb | hb<;>rw[h,hb]at ka<;>try simp only[T3.rot3]at ka
  ·exact ka
  ·rcases ka with k | k | k
   ·exact .inr (.inl k)
   ·exact .inr (.inr k)
   ·exact .inl k
  ·rcases ka with k | k | k
   ·exact .inr (.inr k)
   ·exact .inl k
   ·exact .inr (.inl k)
 ·rintro (rfl | rfl | rfl)
  ·rfl
  ·exact Uk b
  ·rw[Uk,Uk]
def V3.sub (a b:V3):V3:=⟨a.x-b.x,a.y-b.y,a.z-b.z⟩
def V3.crs (a b:V3):V3:=⟨a.y*b.z-a.z*b.y,a.z*b.x-a.x*b.z,a.x*b.y-a.y*b.x⟩
def Kk (a b c:V3):Bool:=a.valid && (b.valid && (c.valid && decide ((b.sub a).crs (c.sub a)=⟨0,0,0⟩)))
def Mesh.deg (m:Mesh) (t:T3):Bool:=Kk (m.v t.a) (m.v t.b) (m.v t.c)
structure Cl where
 out:List T3
 deg:Nat
 twin:Nat
def Cl.step (dg:T3->Bool) (s:Cl) (t:T3):Cl:=if dg t then ⟨s.out,s.deg+1,s.twin⟩ else if s.out.any (T3.twins t) then ⟨s.out,s.deg,s.twin+1⟩ else ⟨s.out++[t],s.deg,s.twin⟩
def Z6 (dg:T3->Bool) (ts:List T3):Cl:=ts.foldl (Cl.step dg) ⟨[],0,0⟩
theorem Wj (dg:T3->Bool) (ts:List T3) (t:T3):Z6 dg (ts++[t])=(Z6 dg ts).step dg t:=by simp[Z6]
theorem Q08 (dg:T3->Bool) {ts:List T3} {k:Nat} {t:T3} (h:ts[k]?=some t):Z6 dg (ts.take (k+1))=(Z6 dg (ts.take k)).step dg t:=by
 rw[List.take_add_one,h];exact Wj dg _ t
def Mesh.cleanM (m:Mesh):Mesh:=⟨m.verts,(Z6 m.deg m.tris).out⟩
structure ClOk (dg:T3->Bool) (ts:List T3) (s:Cl):Prop where
 sub:s.out.Sublist ts
 sum:s.out.length+s.deg+s.twin=ts.length
 deg:∀t∈s.out,dg t=false
 twin:s.out.Pairwise λa b=>b.twins a=false
theorem Qfs (dg:T3->Bool) (ts:List T3):ClOk dg ts (Z6 dg ts):=by
 refine Wv (p:=λts=>ClOk dg ts (Z6 dg ts)) ?_ ?_ ts
 ·exact⟨.slnil,rfl,by simp[Z6],by simp[Z6]⟩
 ·intro E x ih
  rw[Wj]
  unfold Cl.step
  have hs:=ih.sum
  split
  ·exact⟨ih.sub.trans (List.sublist_append_left _ _),by simp;omega,ih.deg,ih.twin⟩
  ·rename_i hd
   split
   ·exact⟨ih.sub.trans (List.sublist_append_left _ _),by simp;omega,ih.deg,ih.twin⟩
   ·rename_i ht
    refine⟨ih.sub.append (List.Sublist.refl _),by simp;omega,λt h=>?_,?_⟩
    ·rcases qg.1 h with h | h
     ·exact ih.deg t h
     ·simp at h;subst h;simpa using hd
    ·simp only
     rw[List.pairwise_append]
     refine⟨ih.twin,by simp,λa ha b hb=>?_⟩
     simp at hb;subst hb
     rw[Bool.eq_false_iff]
     intro h
     exact ht (List.any_eq_true.2 ⟨a,ha,h⟩)
theorem Q71 (dg:T3->Bool) {l:List T3} (h1:∀t∈l,dg t=false) (h2:l.Pairwise λa b=>b.twins a=false):Z6 dg l=⟨l,0,0⟩:=by
 have key:∀k,k<=l.length->Z6 dg (l.take k)=⟨l.take k,0,0⟩:=by
  intro k
  induction k with
  | zero=>intro _;rfl
  | succ k ih =>
    intro hk
    have hp:l[k]?=some l[k]:=q9 (by omega)
    rw[Q08 dg hp,ih (by omega),Cl.step,h1 _ (List.getElem_mem _)]
    have ha:(l.take k).any (T3.twins l[k])=false:=by
     rw[Bool.eq_false_iff]
     intro hh
     obtain⟨a,ha,hb⟩:=List.any_eq_true.1 hh
     obtain⟨j,hj⟩:=qr ha
     rw[jb]at hj
     split at hj
     ·rename_i hjk
      obtain⟨hjl,rfl⟩:=q8.1 hj
      have:=j4.1 h2 j k hjl (by omega) hjk
      rw[this]at hb;cases hb
     ·simp at hj
    rw[ha,List.take_add_one,hp]
    rfl
 have:=key l.length (Nat.le_refl _)
 rwa [qi]at this
end Go.Abs
