/- Part of the library on which the proof stands: an abstract machine, its values and its soundness against the model; or what functions of the program do to such values. -/
import Derived.Test.YtcdjgldeiaiaoaaGreatGoTr
import Derived.Test.YtcdjgldeiaiaoaaGreatGoOriD
import Derived.Test.YtcdjgldeiaiaoaaGreatGoRevC
import Derived.Test.YtcdjgldeiaiaoaaGreatGoClone
import Derived.Test.YtcdjgldeiaiaoaaGreatGoTal
set_option linter.unusedVariables false
set_option linter.unusedSimpArgs false
namespace Go.Abs
def net (E:List P2) (e:P2):Int:=(E.count e:Int)-(E.count e.rev:Int)
theorem perm_nodup {l k:List Int} (hl:l.Nodup) (hk:k.Nodup) (h:∀v,v∈l↔v∈k):l.Perm k:=by
 rw[List.perm_iff_count]
 intro v
 have c:∀{l:List Int},l.Nodup->l.count v=if v∈l then 1 else 0:=λ{l} hl=>by
  by_cases he:v∈l
  ·rw[if_pos he]
   have h1:=List.count_pos_iff.2 he
   have h2:=List.nodup_iff_count.1 hl v
   omega
  ·rw[if_neg he];exact List.count_eq_zero.2 he
 rw[c hl,c hk]
 by_cases hv:v∈l
 ·rw[if_pos hv,if_pos ((h v).1 hv)]
 ·rw[if_neg hv,if_neg (λhh=>hv ((h v).2 hh))]
def Mesh.fillM (m:Mesh):Mesh:=⟨m.verts,m.tris++m.loops.1.flatMap Yg⟩
theorem loops_ok {m:Mesh} (h:m.loops.2=0):m.check=0/\m.simple m.border=true/\m.loops.1=Jz m.border:=by
 unfold Mesh.loops at h ⊢
 by_cases hz:m.check=0
 ·rw[if_pos hz]at h ⊢
  by_cases hs:m.simple m.border=true
  ·rw[if_pos hs];exact⟨hz,hs,rfl⟩
  ·rw[if_neg hs]at h;simp at h
 ·rw[if_neg hz]at h;exact absurd h hz
theorem border_nil {m:Mesh} (hz:m.check=0):m.border=[]↔∀e,net (Q8 m.tris) e=0:=by
 have hu:∀e,m.use e=(Q8 m.tris).count e:=λe=>by simp[Mesh.use,hz]
 constructor
 ·intro hb e
  have hc:m.closed=true:=by simp[Mesh.closed,hz,hb]
  have k:∀e,m.use e<=m.use e.rev:=λe=>by
   refine Decidable.byContradiction λhlt=>?_
   have p2:0<=m.use e.rev:=by rw[hu];omega
   have:e∈m.border:=mem_border.2 ⟨hz,(use_pos hz).2 (by omega),by omega⟩
   rw[hb]at this;simp at this
  have k1:=k e
  have k2:=k e.rev
  rw[P2.rev2]at k2
  unfold net
  rw[hu,hu]at k1 k2
  omega
 ·intro h
  rw[List.eq_nil_iff_forall_not_mem]
  intro e he
  have h1:=(mem_border.1 he).2.2
  have h2:=h e
  unfold net at h2
  rw[hu,hu]at h1
  omega
theorem loops_closed {m:Mesh} (hz:m.check=0) (hb:m.border=[]):m.loops=([],0):=by
 unfold Mesh.loops
 rw[if_pos hz,hb];rfl
def Qu (m:Mesh):Mesh × Int × Int:=if m.loops.2=0 then (if m.fillM.tris.length<=4096 then (m.fillM,m.loops.1.length,0) else (Zc,0,2)) else (Zc,0,m.loops.2)
def Xo (r:Mesh × Int × Int):V:=.t [r.1.enc,.i .i64 r.2.1,.i .i64 r.2.2]
def FillC (P:Program) (f:FuncId):Prop:=∀m:Mesh,CallIs P f [m.enc] (Xo (Qu m))
theorem loops_sum {m:Mesh} (h:m.loops.2=0):(m.loops.1.map List.length).sum=m.border.length:=by
 obtain⟨hz,hs,hls⟩:=loops_ok h
 have hL:=loops_are hz hs
 have hx:=Ij hs (X7 m)
 have hp:=perm_nodup hL.nodup hx hL.mem
 rw[hls,<- List.length_flatten,hp.length_eq,List.length_map]
theorem fans_len (ls:List (List Int)):(ls.flatMap Yg).length<=(ls.map List.length).sum:=by
 induction ls with
 | nil=>simp
 | cons w ls ih =>
   rw[List.flatMap_cons,List.length_append,List.map_cons,List.sum_cons]
   have:(Yg w).length=w.length-2:=by unfold Yg;exact fanK_len _ _
   omega
theorem fill_len {m:Mesh} (h:m.loops.2=0):m.fillM.tris.length<=m.tris.length+m.border.length:=by
 have h1:=fans_len m.loops.1
 rw[loops_sum h]at h1
 simp only[Mesh.fillM,List.length_append];omega
end Go.Abs
set_option linter.unusedVariables false
set_option linter.unusedSimpArgs false
namespace Go.Abs
theorem mulb {x y A B:Int} (h1:-A<=x) (h2:x<=A) (h3:-B<=y) (h4:y<=B):-(A*B)<=x*y/\x*y<=A*B:=by
 have hA:0<=A:=by omega
 have hB:0<=B:=by omega
 have h5:=Nat.mul_le_mul (show x.natAbs<=A.natAbs by omega) (show y.natAbs<=B.natAbs by omega)
 rw[<- Int.natAbs_mul,<- Int.natAbs_mul]at h5
 have h6:0<=A*B:=Int.mul_nonneg hA hB
 omega
def crsS (c0 c1 z0 z1 z:Int):Int:=c0+rnd ((c1-c0)*(2*z+1-2*z0)) (2*(z1-z0))
def point (a b:V3) (z:Int):Option (Int × Int) :=
 if a.valid=true/\b.valid=true/\a.z<=z/\z<b.z then some (crsS a.x b.x a.z b.z z,crsS a.y b.y a.z b.z z) else none
end Go.Abs
set_option linter.unusedVariables false
set_option linter.unusedSimpArgs false
namespace Go.Abs
structure Sg4 where
 a:Int × Int
 b:Int × Int
 found:Bool
def Sg4.step (z:Int) (s:Sg4) (u v:V3):Sg4 :=
 let s1:Sg4:=match point u v z with | some p=>⟨s.a,p,true⟩ | none=>s
 match point v u z with | some p=>⟨p,s1.b,s1.found⟩ | none=>s1
def Sg4.cs (s:Sg4):List V:=[.i .i64 s.a.1,.i .i64 s.a.2,.i .i64 s.b.1,.i .i64 s.b.2]
end Go.Abs
set_option linter.unusedVariables false
set_option linter.unusedSimpArgs false
namespace Go.Abs
instance:Inhabited V3:=⟨⟨0,0,0⟩⟩
def Mesh.v (m:Mesh) (i:Int):V3:=m.verts[i.toNat]?.getD ⟨0,0,0⟩
theorem Mesh.v_get {m:Mesh} {i:Int} (h1:i<m.verts.length) (h:i.toNat<m.verts.length):m.verts[i.toNat]=m.v i:=by simp[Mesh.v,h]
def zV3:V:=.a [.i .i64 0,.i .i64 0,.i .i64 0]
def Mesh.corners (m:Mesh) (i:Int):V :=
 if 0<=i/\i<m.tris.length/\m.check=0 then match m.tris[i.toNat]? with
  | some t=>.t [(m.v t.a).enc,(m.v t.b).enc,(m.v t.c).enc,.b true]
  | none=>.any
 else .t [zV3,zV3,zV3,.b false]
def Wq (P:Program) (f:FuncId):Prop:=∀(m:Mesh) (i:Int),CallIs P f [m.enc,.i .i64 i] (m.corners i)
section
variable {P:Program} (hm:P.follows .mixedOrders=true)
include hm
set_option maxRecDepth 4000 in
set_option maxHeartbeats 1000000 in
theorem mesh_Corners_ok {f fc:FuncId} (hf:Q9 P f (mesh_Corners.c fc) mesh_Corners.r mesh_Corners.n) (hc:Z8 P fc):Wq P f:=by
 intro m i
 refine PureC.is (Q7 hm hf (Nat.le_of_ble_eq_true rfl) ?_) rfl
 unfold mesh_Corners.c
 by_cases h:0<=i/\i<m.tris.length
 ·obtain⟨h0,h1⟩:=h
  have hlt:i.toNat<m.tris.length:=by omega
  simp[go_sem,Mesh.enc,Mesh.cs,vsV,tsV,show ¬ i<0 by omega,show ¬ (m.tris.length:Int)<=i by omega]
  refine Q3 (hc m) ?_
  by_cases hz:m.check=0
  ·obtain⟨z1,z2,z3,z4⟩:=Mesh.check_zero.1 hz
   obtain⟨t,hp⟩:∃t,m.tris[i.toNat]?=some t:=⟨_,List.getElem?_eq_getElem hlt⟩
   obtain⟨hlt',hp'⟩:=List.getElem?_eq_some_iff.1 hp
   obtain⟨t1,t2,t3,t4,t5,t6⟩:=T3.ok_iff.1 (Bm z4 hp)
   have ga:=Mesh.v_get t2 (by omega)
   have gb:=Mesh.v_get t4 (by omega)
   have gc:=Mesh.v_get t6 (by omega)
   have hr:m.corners i=.t [(m.v t.a).enc,(m.v t.b).enc,(m.v t.c).enc,.b true]:=by
    simp only[Mesh.corners,h0,h1,hz,and_self,if_true,hp]
   rw[hr]
   simp[go_sem,hz,h0,h1,hlt,hp',tcs,vcs,t1,t2,t3,t4,t5,t6,show t.a.toNat<m.verts.length by omega,show t.b.toNat<m.verts.length by omega,show t.c.toNat<m.verts.length by omega,ga,gb,gc,mesh_Corners.r,V3.enc]
  ·simp[go_sem,hz,mesh_Corners.r,Mesh.corners,zV3]
 ·have:i<0∨(m.tris.length:Int)<=i:=by omega
  have hr:m.corners i=.t [zV3,zV3,zV3,.b false]:=by
   unfold Mesh.corners;rw[if_neg (by omega)]
  rw[hr]
  by_cases h0:i<0
  ·simp[go_sem,Mesh.enc,Mesh.cs,vsV,tsV,h0,mesh_Corners.r,zV3]
  ·simp[go_sem,Mesh.enc,Mesh.cs,vsV,tsV,h0,show (m.tris.length:Int)<=i by omega,mesh_Corners.r,zV3]
end
end Go.Abs
set_option linter.unusedVariables false
set_option linter.unusedSimpArgs false
namespace Go.Abs
structure LtOrd {α:Type} (lt:α->α->Prop):Prop where
 irr:∀a,¬ lt a a
 tr:∀{a b c},lt a b->lt b c->lt a c
 tot:∀{a b},¬ lt a b->¬ lt b a->a=b
section
variable {α:Type} {lt:α->α->Prop} (O:LtOrd lt)
include O
theorem LtOrd.asymm {a b:α} (h1:lt a b):¬ lt b a:=λh2=>O.irr a (O.tr h1 h2)
theorem Xr:∀{l1 l2:List α},l1.Pairwise lt->l2.Pairwise lt->(∀a,a∈l1↔a∈l2)->l1=l2
 | [],[],_,_,_=>rfl
 | [],y::l2,_,_,h=>by have:=(h y).2 (by simp);simp at this
 | x::l1,[],_,_,h=>by have:=(h x).1 (by simp);simp at this
 | x::l1,y::l2,h1,h2,h=>by
   have p1:=List.pairwise_cons.1 h1
   have p2:=List.pairwise_cons.1 h2
   have hxy:x=y:=by
    rcases List.mem_cons.1 ((h x).1 (by simp)) with h3 | h3
    ·exact h3
    ·rcases List.mem_cons.1 ((h y).2 (by simp)) with h4 | h4
     ·exact h4.symm
     ·exact absurd (p2.1 x h3) (O.asymm (p1.1 y h4))
   subst hxy
   rw[Xr p1.2 p2.2 λa=>?_]
   constructor
   ·intro ha
    rcases List.mem_cons.1 ((h a).1 (by simp[ha])) with h3 | h3
    ·subst h3;exact absurd (p1.1 a ha) (O.irr a)
    ·exact h3
   ·intro ha
    rcases List.mem_cons.1 ((h a).2 (by simp[ha])) with h3 | h3
    ·subst h3;exact absurd (p2.1 a ha) (O.irr a)
    ·exact h3
theorem Kt {l:List α} (h:l.Pairwise lt):l.Nodup:=h.imp λh1 h2=>by subst h2;exact O.irr _ h1
theorem ascG_of_sorted {ys:List α} (hs:ys.Pairwise λa b=>¬ lt b a) (hn:ys.Nodup):ys.Pairwise lt :=
 (List.Pairwise.and hs hn).imp λh=>Classical.byContradiction λh3=>h.2 (O.tot h3 h.1)
end
section
variable {α:Type} [DecidableEq α] {lt:α->α->Prop} [DecidableRel lt]
def insG (lt:α->α->Prop) [DecidableRel lt] (e:α):List α->List α
 | []=>[e]
 | x::l=>if e=x then x::l else if lt e x then e::x::l else x::insG lt e l
def ascG (lt:α->α->Prop) [DecidableRel lt] (l:List α):List α:=l.foldr (insG lt) []
theorem mem_insG {e a:α}:∀{l:List α},a∈insG lt e l↔a=e∨a∈l
 | []=>by simp[insG]
 | x::l=>by
   simp only[insG]
   split
   ·rename_i h;subst h;simp
   ·split
    ·simp
    ·simp[mem_insG];constructor<;>(rintro (h | h | h)<;>simp[h])
theorem insG_asc (O:LtOrd lt) {e:α}:∀{l:List α},l.Pairwise lt->(insG lt e l).Pairwise lt
 | [],_=>by simp[insG]
 | x::l,h=>by
   have hc:=List.pairwise_cons.1 h
   simp only[insG]
   split
   ·exact h
   ·split
    ·rename_i h1 h2
     refine List.pairwise_cons.2 ⟨λb hb=>?_,h⟩
     rcases List.mem_cons.1 hb with rfl | hb
     ·exact h2
     ·exact O.tr h2 (hc.1 b hb)
    ·rename_i h1 h2
     refine List.pairwise_cons.2 ⟨λb hb=>?_,insG_asc O hc.2⟩
     rcases mem_insG.1 hb with rfl | hb
     ·exact Decidable.byContradiction λh3=>h1 (O.tot h2 h3)
     ·exact hc.1 b hb
theorem Ee (O:LtOrd lt) (l:List α):(ascG lt l).Pairwise lt:=by
 induction l with
 | nil=>simp[ascG]
 | cons x l ih=>exact insG_asc O ih
theorem Uu {l:List α} {a:α}:a∈ascG lt l↔a∈l:=by
 induction l with
 | nil=>simp[ascG]
 | cons x l ih=>simp only[ascG,List.foldr_cons,mem_insG,List.mem_cons];rw[<- ih];rfl
theorem ascG_of_perm (O:LtOrd lt) {ys xs:List α} (hp:ys.Perm xs) (hn:xs.Nodup) (hs:ys.Pairwise λa b=>¬ lt b a):ys=ascG lt xs:=by
 refine Xr O (ascG_of_sorted O hs (hp.symm.nodup hn)) (Ee O xs) λa=>by rw[hp.mem_iff,Uu]
end
def V3.lt (a b:V3):Prop:=a.x<b.x∨(a.x=b.x/\(a.y<b.y∨(a.y=b.y/\a.z<b.z)))
instance:DecidableRel V3.lt:=λa b=>by unfold V3.lt;infer_instance
theorem V3.ltO:LtOrd V3.lt where
 irr a:=by unfold V3.lt;omega
 tr h1 h2:=by unfold V3.lt at *;omega
 tot {a b} h h':=by
  unfold V3.lt at *
  have h1:a.x=b.x:=by omega
  have h2:a.y=b.y:=by omega
  have h3:a.z=b.z:=by omega
  cases a;cases b;simp_all
end Go.Abs
set_option linter.unusedVariables false
set_option linter.unusedSimpArgs false
namespace Go.Abs
theorem B7 {α:Type} [DecidableEq α]:∀{l k:List α},l.Nodup->(∀a∈l,a∈k)->l.length<=k.length
 | [],k,_,_=>by simp
 | x::l,k,hn,hs=>by
   have hc:=List.nodup_cons.1 hn
   have hx:=hs x (by simp)
   have:=B7 (l:=l) (k:=k.erase x) hc.2 (λa ha=>by
    have hne:a≠x:=by rintro rfl;exact hc.1 ha
    exact(List.mem_erase_of_ne hne).2 (hs a (by simp[ha])))
   rw[List.length_erase_of_mem hx]at this
   have:=List.length_pos_of_mem hx
   simp only[List.length_cons];omega
def Mesh.cor (m:Mesh) (t:T3):List V3:=[m.v t.a,m.v t.b,m.v t.c]
def Mesh.usedL (m:Mesh) (ts:List T3):List V3:=ts.flatMap m.cor
def Mesh.wverts (m:Mesh):List V3:=ascG V3.lt (m.usedL m.tris)
def Jt (l:List V3) (v:V3):Int:=(l.idxOf v:Nat)
def Wt (m:Mesh) (W:List V3) (t:T3):T3:=⟨Jt W (m.v t.a),Jt W (m.v t.b),Jt W (m.v t.c)⟩
def Mesh.weldM (m:Mesh):Mesh:=⟨m.wverts,m.tris.map (Wt m m.wverts)⟩
theorem Yi (m:Mesh):m.wverts.Pairwise V3.lt:=Ee V3.ltO _
theorem mem_wverts {m:Mesh} {v:V3}:v∈m.wverts↔∃t∈m.tris,v∈m.cor t:=by
 unfold Mesh.wverts Mesh.usedL
 rw[Uu,List.mem_flatMap]
theorem Mesh.v_mem {m:Mesh} {i:Int} (h0:0<=i) (hi:i<m.verts.length):m.v i∈m.verts:=by
 have hlt:i.toNat<m.verts.length:=by omega
 have:m.verts[i.toNat]?=some (m.v i):=by rw[List.getElem?_eq_getElem hlt,m.v_get hi hlt]
 exact List.mem_of_getElem? this
theorem idxV_get {l:List V3} {v:V3} (h:v∈l):l[(Jt l v).toNat]?=some v:=by
 have hlt:=List.idxOf_lt_length_iff.2 h
 unfold Jt
 rw[Int.toNat_natCast,List.getElem?_eq_getElem hlt,List.getElem_idxOf hlt]
theorem idxV_range {l:List V3} {v:V3} (h:v∈l):0<=Jt l v/\Jt l v<l.length:=by
 have hlt:=List.idxOf_lt_length_iff.2 h
 unfold Jt;omega
theorem Uz {l:List V3} (hn:l.Nodup) {i:Nat} {v:V3} (h:l[i]?=some v):Jt l v=i:=by
 obtain⟨hlt,rfl⟩:=List.getElem?_eq_some_iff.1 h
 unfold Jt
 rw[hn.idxOf_getElem]
theorem tok {m:Mesh} (h:m.check=0) {t:T3} (ht:t∈m.tris):0<=t.a/\t.a<m.verts.length/\0<=t.b/\t.b<m.verts.length/\0<=t.c/\t.c<m.verts.length :=
 T3.ok_iff.1 (List.all_eq_true.1 (Mesh.check_zero.1 h).2.2.2 t ht)
theorem Ih {m:Mesh} (h:m.check=0):m.wverts.length<=m.verts.length:=by
 refine B7 (Kt V3.ltO (Yi m)) λa ha=>?_
 obtain⟨t,ht,hv⟩:=mem_wverts.1 ha
 obtain⟨h1,h2,h3,h4,h5,h6⟩:=tok h ht
 simp only[Mesh.cor,List.mem_cons,List.not_mem_nil,or_false]at hv
 rcases hv with rfl | rfl | rfl
 ·exact Mesh.v_mem h1 h2
 ·exact Mesh.v_mem h3 h4
 ·exact Mesh.v_mem h5 h6
theorem weld_v {m:Mesh} {v:V3} (h:v∈m.wverts):m.weldM.v (Jt m.wverts v)=v:=by
 show (m.wverts[(Jt m.wverts v).toNat]?).getD _=v
 rw[idxV_get h];rfl
theorem cor_mem {m:Mesh} {t:T3} (ht:t∈m.tris):m.v t.a∈m.wverts/\m.v t.b∈m.wverts/\m.v t.c∈m.wverts:=by
 refine⟨mem_wverts.2 ⟨t,ht,?_⟩,mem_wverts.2 ⟨t,ht,?_⟩,mem_wverts.2 ⟨t,ht,?_⟩⟩<;>simp[Mesh.cor]
theorem weld_cor {m:Mesh} {t:T3} (ht:t∈m.tris):m.weldM.cor (Wt m m.wverts t)=m.cor t:=by
 obtain⟨h1,h2,h3⟩:=cor_mem ht
 simp only[Mesh.cor,Wt,weld_v h1,weld_v h2,weld_v h3]
theorem weld_weld {m:Mesh} (h:m.check=0):m.weldM.weldM=m.weldM:=by
 have hv:m.weldM.wverts=m.wverts:=by
  refine Xr V3.ltO (Yi _) (Yi _) λv=>?_
  rw[mem_wverts,mem_wverts]
  constructor
  ·rintro⟨t,ht,hv⟩
   obtain⟨s,hs,rfl⟩:=List.mem_map.1 (show t∈m.tris.map _ from ht)
   rw[weld_cor hs]at hv
   exact⟨s,hs,hv⟩
  ·rintro⟨s,hs,hv⟩
   exact⟨Wt m m.wverts s,List.mem_map.2 ⟨s,hs,rfl⟩,by rw[weld_cor hs];exact hv⟩
 have ht:m.weldM.tris.map (Wt m.weldM m.wverts)=m.weldM.tris:=by
  show (m.tris.map (Wt m m.wverts)).map _=m.tris.map _
  rw[List.map_map]
  refine List.map_congr_left λt ht=>?_
  obtain⟨h1,h2,h3⟩:=cor_mem ht
  simp only[Function.comp,Wt,weld_v h1,weld_v h2,weld_v h3]
 show Mesh.mk m.weldM.wverts (m.weldM.tris.map (Wt m.weldM m.weldM.wverts))=_
 rw[hv,ht];rfl
def T3.lt (s t:T3):Prop:=s.a<t.a∨(s.a=t.a/\(s.b<t.b∨(s.b=t.b/\s.c<t.c)))
instance:DecidableRel T3.lt:=λa b=>by unfold T3.lt;infer_instance
theorem T3.ltO:LtOrd T3.lt where
 irr a:=by unfold T3.lt;omega
 tr h1 h2:=by unfold T3.lt at *;omega
 tot {a b} h h':=by
  unfold T3.lt at *
  have h1:a.a=b.a:=by omega
  have h2:a.b=b.b:=by omega
  have h3:a.c=b.c:=by omega
  cases a;cases b;simp_all
def T3.rot (t:T3):T3:=⟨t.b,t.c,t.a⟩
def T3.least (x t:T3):T3:=if T3.lt t x then t else x
def T3.turned (t:T3):T3:=T3.least (T3.least t t.rot) t.rot.rot
def T3.twins (a b:T3):Bool:=decide (a=b) || (decide (a=b.rot) || decide (a=b.rot.rot))
theorem T3.rot3 (t:T3):t.rot.rot.rot=t:=rfl
theorem least_mem (x t:T3):T3.least x t=x∨T3.least x t=t:=by unfold T3.least;split<;>simp
theorem least_le (x t:T3):¬ T3.lt x (T3.least x t)/\¬ T3.lt t (T3.least x t):=by
 unfold T3.least
 split
 ·rename_i h;exact⟨T3.ltO.asymm h,T3.ltO.irr _⟩
 ·rename_i h;exact⟨T3.ltO.irr _,h⟩
theorem Wv (t:T3):t.turned=t∨t.turned=t.rot∨t.turned=t.rot.rot:=by
 unfold T3.turned
 rcases least_mem (T3.least t t.rot) t.rot.rot with h | h<;>rw[h]
 ·rcases least_mem t t.rot with h | h<;>rw[h]<;>simp
 ·simp
theorem not_lt_trans {a b c:T3} (h1:¬ T3.lt a b) (h2:¬ T3.lt b c):¬ T3.lt a c:=by unfold T3.lt at *;omega
theorem turned_le (t:T3):¬ T3.lt t t.turned/\¬ T3.lt t.rot t.turned/\¬ T3.lt t.rot.rot t.turned:=by
 unfold T3.turned
 have h1:=least_le t t.rot
 have h2:=least_le (T3.least t t.rot) t.rot.rot
 exact⟨not_lt_trans h1.1 h2.1,not_lt_trans h1.2 h2.1,h2.2⟩
theorem Ii (t:T3):t.rot.turned=t.turned:=by
 have h1:=turned_le t
 have h2:=turned_le t.rot
 rw[T3.rot3]at h2
 refine T3.ltO.tot ?_ ?_
 ·rcases Wv t.rot with h | h | h
  ·rw[h];exact h1.2.1
  ·rw[h];exact h1.2.2
  ·rw[h,T3.rot3];exact h1.1
 ·rcases Wv t with h | h | h
  ·rw[h];exact h2.2.2
  ·rw[h];exact h2.1
  ·rw[h];exact h2.2.1
theorem turned_iff {a b:T3}:a.turned=b.turned↔a.twins b=true:=by
 simp only[T3.twins,Bool.or_eq_true,decide_eq_true_eq]
 constructor
 ·intro h
  have key:∀t:T3,t=t.turned∨t=t.turned.rot∨t=t.turned.rot.rot:=by
   intro t
   rcases Wv t with h | h | h
   ·left;exact h.symm
   ·right;right;rw[h];rfl
   ·right;left;rw[h];rfl
  have ka:=key a
  rcases Wv b with hb | hb | hb<;>rw[h,hb]at ka<;>try simp only[T3.rot3]at ka
  ·exact ka
  ·rcases ka with k | k | k
   ·exact .inr (.inl k)
   ·exact .inr (.inr k)
   ·exact .inl k
  ·rcases ka with k | k | k
   ·exact .inr (.inr k)
   ·exact .inl k
   ·exact .inr (.inl k)
 ·rintro (rfl | rfl | rfl)
  ·rfl
  ·exact Ii b
  ·rw[Ii,Ii]
def V3.sub (a b:V3):V3:=⟨a.x-b.x,a.y-b.y,a.z-b.z⟩
def V3.crs (a b:V3):V3:=⟨a.y*b.z-a.z*b.y,a.z*b.x-a.x*b.z,a.x*b.y-a.y*b.x⟩
def Kq (a b c:V3):Bool:=a.valid && (b.valid && (c.valid && decide ((b.sub a).crs (c.sub a)=⟨0,0,0⟩)))
def Mesh.deg (m:Mesh) (t:T3):Bool:=Kq (m.v t.a) (m.v t.b) (m.v t.c)
structure Cl where
 out:List T3
 deg:Nat
 twin:Nat
def Cl.step (dg:T3->Bool) (s:Cl) (t:T3):Cl:=if dg t then ⟨s.out,s.deg+1,s.twin⟩ else if s.out.any (T3.twins t) then ⟨s.out,s.deg,s.twin+1⟩ else ⟨s.out++[t],s.deg,s.twin⟩
def Z0 (dg:T3->Bool) (ts:List T3):Cl:=ts.foldl (Cl.step dg) ⟨[],0,0⟩
theorem Eb (dg:T3->Bool) (ts:List T3) (t:T3):Z0 dg (ts++[t])=(Z0 dg ts).step dg t:=by simp[Z0]
theorem cleanL_succ (dg:T3->Bool) {ts:List T3} {k:Nat} {t:T3} (h:ts[k]?=some t):Z0 dg (ts.take (k+1))=(Z0 dg (ts.take k)).step dg t:=by
 rw[List.take_add_one,h];exact Eb dg _ t
def Mesh.cleanM (m:Mesh):Mesh:=⟨m.verts,(Z0 m.deg m.tris).out⟩
structure ClOk (dg:T3->Bool) (ts:List T3) (s:Cl):Prop where
 sub:s.out.Sublist ts
 sum:s.out.length+s.deg+s.twin=ts.length
 deg:∀t∈s.out,dg t=false
 twin:s.out.Pairwise λa b=>b.twins a=false
theorem cleanL_ok (dg:T3->Bool) (ts:List T3):ClOk dg ts (Z0 dg ts):=by
 refine Kz (p:=λts=>ClOk dg ts (Z0 dg ts)) ?_ ?_ ts
 ·exact⟨.slnil,rfl,by simp[Z0],by simp[Z0]⟩
 ·intro E x ih
  rw[Eb]
  unfold Cl.step
  have hs:=ih.sum
  split
  ·exact⟨ih.sub.trans (List.sublist_append_left _ _),by simp;omega,ih.deg,ih.twin⟩
  ·rename_i hd
   split
   ·exact⟨ih.sub.trans (List.sublist_append_left _ _),by simp;omega,ih.deg,ih.twin⟩
   ·rename_i ht
    refine⟨ih.sub.append (List.Sublist.refl _),by simp;omega,λt h=>?_,?_⟩
    ·rcases List.mem_append.1 h with h | h
     ·exact ih.deg t h
     ·simp at h;subst h;simpa using hd
    ·simp only
     rw[List.pairwise_append]
     refine⟨ih.twin,by simp,λa ha b hb=>?_⟩
     simp at hb;subst hb
     rw[Bool.eq_false_iff]
     intro h
     exact ht (List.any_eq_true.2 ⟨a,ha,h⟩)
end Go.Abs
