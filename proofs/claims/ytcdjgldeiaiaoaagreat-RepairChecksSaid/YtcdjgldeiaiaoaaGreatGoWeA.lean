/- Part of the library on which the proof stands: an abstract machine, its values and its soundness against the model; or what functions of the program do to such values. -/
import Derived.Test.YtcdjgldeiaiaoaaGreatGoTal
import Derived.Test.YtcdjgldeiaiaoaaGreatGoClone
import Derived.Test.YtcdjgldeiaiaoaaGreatGoSl
import Derived.Test.YtcdjgldeiaiaoaaGreatGoRevC
import Derived.Test.YtcdjgldeiaiaoaaGreatGoSet
set_option linter.unusedVariables false
set_option linter.unusedSimpArgs false
namespace Go.Abs
theorem nodup_take_succ {α:Type} {l:List α} {k:Nat} {x:α} (hx:l[k]? = some x) (h:(l.take k).Nodup) (hm:x ∉ l.take k):(l.take (k + 1)).Nodup:=by
 rw [List.take_add_one,hx,List.nodup_append]
 exact⟨h,by simp,fun a ha b hb=>by simp at hb;subst hb;rintro rfl;exact hm ha⟩
theorem p2_ext {x y:P2} (h1:x.x = y.x) (h2:x.y = y.y):x = y:=by cases x;cases y;simp_all
section
variable {P:Program} (hm:P.follows .mixedOrders = true)
include hm
set_option maxHeartbeats 4000000 in
theorem ref11_uses_ok {f:FuncId} (hf:FnOk P f ref11_uses.c ref11_uses.r ref11_uses.n):EdgesC P f:=by
 intro t
 refine PureC.is (pure_of hm hf (Nat.le_of_ble_eq_true rfl) ?_) rfl
 unfold ref11_uses.c
 simp [go_sem,T3.enc,T3.cs]
 have w1:IntKind.i64.wrap 1 = 1:=rfl
 have w2:IntKind.i64.wrap 2 = 2:=rfl
 have w3:IntKind.i64.wrap 3 = 3:=rfl
 refine AS_loopG [.t 4 2] (α:=Nat) (fun k=>k ≤ 3)
  (fun k=>⟨[(3,.own 1 1 0 3),(4,.own 2 ((edgesK t k).length + 1) 0 (edgesK t k).length),(5,.i .i64 k)],
   [.dead,.arr 1 2 [[.i .i64 t.a,.i .i64 t.b],[.i .i64 t.b,.i .i64 t.c],[.i .i64 t.c,.i .i64 t.a]],.arr ((edgesK t k).length + 1) 2 ((edgesK t k).map P2.cs)]⟩)
  (fun k=>3 - k) 0 (by omega) ?_ ?_
 ·simp [go_sem,edgesK_0,V.cl,V.cl1,V.cl0]
 ·intro k hk
  have hl:=edgesK_le t k
  by_cases h3:k = 3
  ·subst h3
   simp [go_sem,ref11_uses.r,psV,edgesOf,p2_isD]
  ·have:k = 0 ∨ k = 1 ∨ k = 2:=by omega
   rcases this with rfl | rfl | rfl
   ·have hs:=edgesK_1 t
    generalize hE:edgesK t 0 = E0 at hs hl
    by_cases h:t.a = t.b
    ·rw [if_pos h] at hs
     simp [go_sem,h,w1,w2,w3]
     exact⟨1,by omega,by omega,by simp [hs],by simp [hs],by simp [p2_cl]⟩
    ·rw [if_neg h] at hs
     simp [go_sem,h,w1,w2,w3]
     exact⟨by omega,1,by omega,by omega,by simp [hs],by simp [hs,pcs,or_imp,forall_and,V.cl,V.cl1,V.cl0]⟩
   ·have hs:=edgesK_2 t
    generalize hE:edgesK t 1 = E0 at hs hl
    by_cases h:t.b = t.c
    ·rw [if_pos h] at hs
     simp [go_sem,h,w1,w2,w3]
     exact⟨2,by omega,by omega,by simp [hs],by simp [hs],by simp [p2_cl]⟩
    ·rw [if_neg h] at hs
     simp [go_sem,h,w1,w2,w3]
     exact⟨by omega,2,by omega,by omega,by simp [hs],by simp [hs,pcs,or_imp,forall_and,V.cl,V.cl1,V.cl0]⟩
   ·have hs:=edgesK_3 t
    generalize hE:edgesK t 2 = E0 at hs hl
    by_cases h:t.c = t.a
    ·rw [if_pos h] at hs
     simp [go_sem,h,w1,w2,w3]
     exact⟨3,by omega,by omega,by simp [hs],by simp [hs],by simp [p2_cl]⟩
    ·rw [if_neg h] at hs
     simp [go_sem,h,w1,w2,w3]
     exact⟨by omega,3,by omega,by omega,by simp [hs],by simp [hs,pcs,or_imp,forall_and,V.cl,V.cl1,V.cl0]⟩
set_option maxHeartbeats 4000000 in
theorem ref11_coherent_ok {f fu:FuncId} (hf:FnOk P f (ref11_coherent.c fu) ref11_coherent.r ref11_coherent.n) (hu:EdgesC P fu):CohC P f:=by
 intro l hl
 refine PureC.is (pure_of hm hf (Nat.le_of_ble_eq_true rfl) ?_) rfl
 unfold ref11_coherent.c
 simp [go_sem,tsV]
 refine AS_loopG [.t 3 2] (α:=Nat) (fun k=>k ≤ l.length)
  (fun k=>⟨[(0,tsV l),(3,.own 0 (k + 1) 0 (alluses (l.take k)).length),(4,.i .i64 k)],[.arr (k + 1) 2 ((alluses (l.take k)).map P2.cs)]⟩)
  (fun k=>l.length - k) 0 (by omega) ?_ ?_
 ·simp [go_sem,tsV,alluses]
 ·intro k hk
  have hal:(alluses (l.take k)).length ≤ 3 * k:=alluses_len l k
  by_cases hkl:k = l.length
  ·subst hkl
   rw [List.take_length] at hal ⊢
   simp [go_sem,tsV]
   generalize hE:alluses l = E at hal ⊢
   refine AS_loop (α:=Nat) (fun k=>k ≤ E.length∧(E.take k).Nodup)
    (fun k=>⟨[(3,.own 0 (l.length + 1) 0 E.length),(5,.i .i64 k)],[.arr (l.length + 1) 2 (E.map P2.cs)]⟩)
    (fun k=>E.length - k) 0 ⟨by omega,by simp⟩ ?_ ?_
   ·simp [go_sem,p2_cl]
   ·rintro i ⟨hi,hnd⟩
    by_cases hil:i = E.length
    ·subst hil
     rw [List.take_length] at hnd
     simp [go_sem,ref11_coherent.r,cohB,hE,hnd]
    ·have hilt:i < E.length:=by omega
     have hp:E[i]? = some E[i]:=List.getElem?_eq_getElem hilt
     generalize E[i] = x at hp
     obtain⟨_,hp'⟩:=List.getElem?_eq_some_iff.1 hp
     simp [go_sem,hilt]
     refine AS_loop (α:=Nat) (fun k=>k ≤ i∧x ∉ E.take k)
      (fun k=>⟨[(3,.own 0 (l.length + 1) 0 E.length),(5,.i .i64 i),(6,.i .i64 k)],[.arr (l.length + 1) 2 (E.map P2.cs)]⟩)
      (fun k=>i - k) 0 ⟨by omega,by simp⟩ ?_ ?_
     ·simp [go_sem,p2_cl]
     ·rintro k ⟨hk,hnm⟩
      by_cases hki:k = i
      ·subst hki
       simp (disch:=omega) [go_sem,wrap64_small]
       exact⟨k + 1,⟨by omega,nodup_take_succ hp hnd hnm⟩,by omega,by omega,by simp [p2_cl]⟩
      ·have hklt:k < E.length:=by omega
       have hq:E[k]? = some E[k]:=List.getElem?_eq_getElem hklt
       generalize E[k] = y at hq
       obtain⟨_,hq'⟩:=List.getElem?_eq_some_iff.1 hq
       have hki':k < i:=by omega
       simp [go_sem,hki',hilt,hklt,hp',hq',pcs]
       by_cases hxy:x = y
       ·refine⟨fun _ _=>?_,fun h=>absurd (by rw [hxy]) (h (by rw [hxy]))⟩
        have hnn:¬ (alluses l).Nodup:=by
         rw [hE]
         intro hall
         exact List.pairwise_iff_getElem.1 hall k i hklt hilt hki' (by rw [hp',hq',hxy])
        simp [go_sem,ref11_coherent.r,cohB,hnn]
       ·refine⟨fun h1 h2=>absurd (p2_ext h1 h2) hxy,fun _=>⟨k + 1,⟨by omega,?_⟩,by omega,wrap64_small (by omega) (by omega)⟩⟩
        rw [List.take_add_one,hq]
        simp [hnm,hxy]
  ·have hlt:k < l.length:=by omega
   have hp:l[k]? = some l[k]:=List.getElem?_eq_getElem hlt
   generalize l[k] = t at hp
   obtain⟨_,hp'⟩:=List.getElem?_eq_some_iff.1 hp
   simp [go_sem,tsV,hlt,hp',tcs]
   refine ACall_is (hu t) ?_
   have hel:(edgesOf t).length ≤ 3:=edgesK_le t 3
   simp [go_sem,psV]
   refine⟨by omega,k + 1,by omega,by omega,?_⟩
   rw [alluses_succ hp]
   simp [p2_cl]
   exact wrap64_small (by omega) (by omega)
end
end Go.Abs
set_option linter.unusedVariables false
set_option linter.unusedSimpArgs false
namespace Go.Abs
def Mesh.coh (m:Mesh):Bool:=decide (m.check = 0) && cohB m.tris
def CoherentC (P:Program) (f:FuncId):Prop:=∀ m:Mesh,CallIs P f [m.enc] (.b m.coh)
section
variable {P:Program} (hm:P.follows .mixedOrders = true)
include hm
theorem orient_Coherent_ok {f fc fh:FuncId} (hf:FnOk P f (orient_Coherent.c fc fh) orient_Coherent.r orient_Coherent.n) (hc:CheckC P fc) (hh:CohC P fh):CoherentC P f:=by
 intro m
 refine PureC.is (pure_of hm hf (Nat.le_of_ble_eq_true rfl) ?_) rfl
 unfold orient_Coherent.c
 simp [go_sem,Mesh.enc,Mesh.cs]
 refine ACall_is (hc m) ?_
 by_cases h:m.check = 0
 ·have hl:=(Mesh.check_zero.1 h).2.1
  simp [go_sem,h]
  refine ACall_is (hh m.tris (by omega)) ?_
  simp [go_sem,orient_Coherent.r,Mesh.coh,h]
 ·have h':(m.check == 0) = false:=by simpa using h
  simp [go_sem,h,h',orient_Coherent.r,Mesh.coh]
theorem ref11_Coherent_ok {f fc fh:FuncId} (hf:FnOk P f (ref11_Coherent.c fc fh) ref11_Coherent.r ref11_Coherent.n) (hc:CheckC P fc) (hh:CohC P fh):CoherentC P f:=by
 intro m
 refine PureC.is (pure_of hm hf (Nat.le_of_ble_eq_true rfl) ?_) rfl
 unfold ref11_Coherent.c
 simp [go_sem,Mesh.enc,Mesh.cs]
 refine ACall_is (hc m) ?_
 by_cases h:m.check = 0
 ·have hl:=(Mesh.check_zero.1 h).2.1
  simp [go_sem,h]
  refine ACall_is (hh m.tris (by omega)) ?_
  simp [go_sem,ref11_Coherent.r,Mesh.coh,h]
 ·have h':(m.check == 0) = false:=by simpa using h
  simp [go_sem,h,h',ref11_Coherent.r,Mesh.coh]
end
end Go.Abs
set_option linter.unusedVariables false
set_option linter.unusedSimpArgs false
namespace Go.Abs
def net (E:List P2) (e:P2):Int:=(E.count e:Int) - (E.count e.rev:Int)
theorem perm_nodup {l k:List Int} (hl:l.Nodup) (hk:k.Nodup) (h:∀ v,v ∈ l ↔ v ∈ k):l.Perm k:=by
 rw [List.perm_iff_count]
 intro v
 have c:∀ {l:List Int},l.Nodup→l.count v = if v ∈ l then 1 else 0:=fun {l} hl=>by
  by_cases he:v ∈ l
  ·rw [if_pos he]
   have h1:=List.count_pos_iff.2 he
   have h2:=List.nodup_iff_count.1 hl v
   omega
  ·rw [if_neg he];exact List.count_eq_zero.2 he
 rw [c hl,c hk]
 by_cases hv:v ∈ l
 ·rw [if_pos hv,if_pos ((h v).1 hv)]
 ·rw [if_neg hv,if_neg (fun hh=>hv ((h v).2 hh))]
def Mesh.fillM (m:Mesh):Mesh:=⟨m.verts,m.tris ++ m.loops.1.flatMap fanOf⟩
theorem loops_ok {m:Mesh} (h:m.loops.2 = 0):m.check = 0∧m.simple m.border = true∧m.loops.1 = loopsOf m.border:=by
 unfold Mesh.loops at h ⊢
 by_cases hz:m.check = 0
 ·rw [if_pos hz] at h ⊢
  by_cases hs:m.simple m.border = true
  ·rw [if_pos hs];exact⟨hz,hs,rfl⟩
  ·rw [if_neg hs] at h;simp at h
 ·rw [if_neg hz] at h;exact absurd h hz
theorem border_nil {m:Mesh} (hz:m.check = 0):m.border = [] ↔ ∀ e,net (alluses m.tris) e = 0:=by
 have hu:∀ e,m.use e = (alluses m.tris).count e:=fun e=>by simp [Mesh.use,hz]
 constructor
 ·intro hb e
  have hc:m.closed = true:=by simp [Mesh.closed,hz,hb]
  have k:∀ e,m.use e ≤ m.use e.rev:=fun e=>by
   refine Decidable.byContradiction fun hlt=>?_
   have p2:0 ≤ m.use e.rev:=by rw [hu];omega
   have:e ∈ m.border:=mem_border.2 ⟨hz,(use_pos hz).2 (by omega),by omega⟩
   rw [hb] at this;simp at this
  have k1:=k e
  have k2:=k e.rev
  rw [P2.rev2] at k2
  unfold net
  rw [hu,hu] at k1 k2
  omega
 ·intro h
  rw [List.eq_nil_iff_forall_not_mem]
  intro e he
  have h1:=(mem_border.1 he).2.2
  have h2:=h e
  unfold net at h2
  rw [hu,hu] at h1
  omega
theorem loops_closed {m:Mesh} (hz:m.check = 0) (hb:m.border = []):m.loops = ([],0):=by
 unfold Mesh.loops
 rw [if_pos hz,hb];rfl
def fillR (m:Mesh):Mesh × Int × Int:=if m.loops.2 = 0 then (if m.fillM.tris.length ≤ 4096 then (m.fillM,m.loops.1.length,0) else (noMesh,0,2)) else (noMesh,0,m.loops.2)
def fillV (r:Mesh × Int × Int):V:=.t [r.1.enc,.i .i64 r.2.1,.i .i64 r.2.2]
def FillC (P:Program) (f:FuncId):Prop:=∀ m:Mesh,CallIs P f [m.enc] (fillV (fillR m))
theorem loops_sum {m:Mesh} (h:m.loops.2 = 0):(m.loops.1.map List.length).sum = m.border.length:=by
 obtain⟨hz,hs,hls⟩:=loops_ok h
 have hL:=loops_are hz hs
 have hx:=simple_xnd hs (border_asc m)
 have hp:=perm_nodup hL.nodup hx hL.mem
 rw [hls,← List.length_flatten,hp.length_eq,List.length_map]
end Go.Abs
set_option linter.unusedVariables false
set_option linter.unusedSimpArgs false
namespace Go.Abs
theorem mulb {x y A B:Int} (h1:-A ≤ x) (h2:x ≤ A) (h3:-B ≤ y) (h4:y ≤ B):-(A * B) ≤ x * y∧x * y ≤ A * B:=by
 have hA:0 ≤ A:=by omega
 have hB:0 ≤ B:=by omega
 have h5:=Nat.mul_le_mul (show x.natAbs ≤ A.natAbs by omega) (show y.natAbs ≤ B.natAbs by omega)
 rw [← Int.natAbs_mul,← Int.natAbs_mul] at h5
 have h6:0 ≤ A * B:=Int.mul_nonneg hA hB
 omega
def crsS (c0 c1 z0 z1 z:Int):Int:=c0 + rnd ((c1 - c0) * (2 * z + 1 - 2 * z0)) (2 * (z1 - z0))
def point (a b:V3) (z:Int):Option (Int × Int) :=
 if a.valid = true∧b.valid = true∧a.z ≤ z∧z < b.z then some (crsS a.x b.x a.z b.z z,crsS a.y b.y a.z b.z z) else none
end Go.Abs
set_option linter.unusedVariables false
set_option linter.unusedSimpArgs false
namespace Go.Abs
structure Sg4 where
 a:Int × Int
 b:Int × Int
 found:Bool
def Sg4.step (z:Int) (s:Sg4) (u v:V3):Sg4 :=
 let s1:Sg4:=match point u v z with | some p=>⟨s.a,p,true⟩ | none=>s
 match point v u z with | some p=>⟨p,s1.b,s1.found⟩ | none=>s1
def Sg4.cs (s:Sg4):List V:=[.i .i64 s.a.1,.i .i64 s.a.2,.i .i64 s.b.1,.i .i64 s.b.2]
end Go.Abs
set_option linter.unusedVariables false
set_option linter.unusedSimpArgs false
namespace Go.Abs
instance:Inhabited V3:=⟨⟨0,0,0⟩⟩
def Mesh.v (m:Mesh) (i:Int):V3:=m.verts[i.toNat]?.getD ⟨0,0,0⟩
theorem Mesh.v_get {m:Mesh} {i:Int} (h1:i < m.verts.length) (h:i.toNat < m.verts.length):m.verts[i.toNat] = m.v i:=by simp [Mesh.v,h]
def zV3:V:=.a [.i .i64 0,.i .i64 0,.i .i64 0]
def Mesh.corners (m:Mesh) (i:Int):V :=
 if 0 ≤ i∧i < m.tris.length∧m.check = 0 then match m.tris[i.toNat]? with
  | some t=>.t [(m.v t.a).enc,(m.v t.b).enc,(m.v t.c).enc,.b true]
  | none=>.any
 else .t [zV3,zV3,zV3,.b false]
def CornersC (P:Program) (f:FuncId):Prop:=∀ (m:Mesh) (i:Int),CallIs P f [m.enc,.i .i64 i] (m.corners i)
section
variable {P:Program} (hm:P.follows .mixedOrders = true)
include hm
set_option maxRecDepth 4000 in
set_option maxHeartbeats 1000000 in
theorem mesh_Corners_ok {f fc:FuncId} (hf:FnOk P f (mesh_Corners.c fc) mesh_Corners.r mesh_Corners.n) (hc:CheckC P fc):CornersC P f:=by
 intro m i
 refine PureC.is (pure_of hm hf (Nat.le_of_ble_eq_true rfl) ?_) rfl
 unfold mesh_Corners.c
 by_cases h:0 ≤ i∧i < m.tris.length
 ·obtain⟨h0,h1⟩:=h
  have hlt:i.toNat < m.tris.length:=by omega
  simp [go_sem,Mesh.enc,Mesh.cs,vsV,tsV,show ¬ i < 0 by omega,show ¬ (m.tris.length:Int) ≤ i by omega]
  refine ACall_is (hc m) ?_
  by_cases hz:m.check = 0
  ·obtain⟨z1,z2,z3,z4⟩:=Mesh.check_zero.1 hz
   obtain⟨t,hp⟩:∃ t,m.tris[i.toNat]? = some t:=⟨_,List.getElem?_eq_getElem hlt⟩
   obtain⟨hlt',hp'⟩:=List.getElem?_eq_some_iff.1 hp
   obtain⟨t1,t2,t3,t4,t5,t6⟩:=T3.ok_iff.1 (tsOk_get z4 hp)
   have ga:=Mesh.v_get t2 (by omega)
   have gb:=Mesh.v_get t4 (by omega)
   have gc:=Mesh.v_get t6 (by omega)
   have hr:m.corners i = .t [(m.v t.a).enc,(m.v t.b).enc,(m.v t.c).enc,.b true]:=by
    simp only [Mesh.corners,h0,h1,hz,and_self,if_true,hp]
   rw [hr]
   simp [go_sem,hz,h0,h1,hlt,hp',tcs,vcs,t1,t2,t3,t4,t5,t6,show t.a.toNat < m.verts.length by omega,show t.b.toNat < m.verts.length by omega,show t.c.toNat < m.verts.length by omega,ga,gb,gc,mesh_Corners.r,V3.enc]
  ·simp [go_sem,hz,mesh_Corners.r,Mesh.corners,zV3]
 ·have:i < 0 ∨ (m.tris.length:Int) ≤ i:=by omega
  have hr:m.corners i = .t [zV3,zV3,zV3,.b false]:=by
   unfold Mesh.corners;rw [if_neg (by omega)]
  rw [hr]
  by_cases h0:i < 0
  ·simp [go_sem,Mesh.enc,Mesh.cs,vsV,tsV,h0,mesh_Corners.r,zV3]
  ·simp [go_sem,Mesh.enc,Mesh.cs,vsV,tsV,h0,show (m.tris.length:Int) ≤ i by omega,mesh_Corners.r,zV3]
end
end Go.Abs
set_option linter.unusedVariables false
set_option linter.unusedSimpArgs false
namespace Go.Abs
structure LtOrd {α:Type} (lt:α→α→Prop):Prop where
 irr:∀ a,¬ lt a a
 tr:∀ {a b c},lt a b→lt b c→lt a c
 tot:∀ {a b},¬ lt a b→¬ lt b a→a = b
section
variable {α:Type} {lt:α→α→Prop} (O:LtOrd lt)
include O
theorem LtOrd.asymm {a b:α} (h1:lt a b):¬ lt b a:=fun h2=>O.irr a (O.tr h1 h2)
theorem ascG_ext:∀ {l1 l2:List α},l1.Pairwise lt→l2.Pairwise lt→(∀ a,a ∈ l1 ↔ a ∈ l2)→l1 = l2
 | [],[],_,_,_=>rfl
 | [],y :: l2,_,_,h=>by have:=(h y).2 (by simp);simp at this
 | x :: l1,[],_,_,h=>by have:=(h x).1 (by simp);simp at this
 | x :: l1,y :: l2,h1,h2,h=>by
   have p1:=List.pairwise_cons.1 h1
   have p2:=List.pairwise_cons.1 h2
   have hxy:x = y:=by
    rcases List.mem_cons.1 ((h x).1 (by simp)) with h3 | h3
    ·exact h3
    ·rcases List.mem_cons.1 ((h y).2 (by simp)) with h4 | h4
     ·exact h4.symm
     ·exact absurd (p2.1 x h3) (O.asymm (p1.1 y h4))
   subst hxy
   rw [ascG_ext p1.2 p2.2 fun a=>?_]
   constructor
   ·intro ha
    rcases List.mem_cons.1 ((h a).1 (by simp [ha])) with h3 | h3
    ·subst h3;exact absurd (p1.1 a ha) (O.irr a)
    ·exact h3
   ·intro ha
    rcases List.mem_cons.1 ((h a).2 (by simp [ha])) with h3 | h3
    ·subst h3;exact absurd (p2.1 a ha) (O.irr a)
    ·exact h3
theorem ascG_nodup {l:List α} (h:l.Pairwise lt):l.Nodup:=h.imp fun h1 h2=>by subst h2;exact O.irr _ h1
theorem ascG_of_sorted {ys:List α} (hs:ys.Pairwise fun a b=>¬ lt b a) (hn:ys.Nodup):ys.Pairwise lt :=
 (List.Pairwise.and hs hn).imp fun h=>Classical.byContradiction fun h3=>h.2 (O.tot h3 h.1)
end
section
variable {α:Type} [DecidableEq α] {lt:α→α→Prop} [DecidableRel lt]
def insG (lt:α→α→Prop) [DecidableRel lt] (e:α):List α→List α
 | []=>[e]
 | x :: l=>if e = x then x :: l else if lt e x then e :: x :: l else x :: insG lt e l
def ascG (lt:α→α→Prop) [DecidableRel lt] (l:List α):List α:=l.foldr (insG lt) []
theorem mem_insG {e a:α}:∀ {l:List α},a ∈ insG lt e l ↔ a = e ∨ a ∈ l
 | []=>by simp [insG]
 | x :: l=>by
   simp only [insG]
   split
   ·rename_i h;subst h;simp
   ·split
    ·simp
    ·simp [mem_insG];constructor <;> (rintro (h | h | h) <;> simp [h])
theorem insG_asc (O:LtOrd lt) {e:α}:∀ {l:List α},l.Pairwise lt→(insG lt e l).Pairwise lt
 | [],_=>by simp [insG]
 | x :: l,h=>by
   have hc:=List.pairwise_cons.1 h
   simp only [insG]
   split
   ·exact h
   ·split
    ·rename_i h1 h2
     refine List.pairwise_cons.2 ⟨fun b hb=>?_,h⟩
     rcases List.mem_cons.1 hb with rfl | hb
     ·exact h2
     ·exact O.tr h2 (hc.1 b hb)
    ·rename_i h1 h2
     refine List.pairwise_cons.2 ⟨fun b hb=>?_,insG_asc O hc.2⟩
     rcases mem_insG.1 hb with rfl | hb
     ·exact Decidable.byContradiction fun h3=>h1 (O.tot h2 h3)
     ·exact hc.1 b hb
theorem ascG_asc (O:LtOrd lt) (l:List α):(ascG lt l).Pairwise lt:=by
 induction l with
 | nil=>simp [ascG]
 | cons x l ih=>exact insG_asc O ih
theorem mem_ascG {l:List α} {a:α}:a ∈ ascG lt l ↔ a ∈ l:=by
 induction l with
 | nil=>simp [ascG]
 | cons x l ih=>simp only [ascG,List.foldr_cons,mem_insG,List.mem_cons];rw [← ih];rfl
theorem ascG_of_perm (O:LtOrd lt) {ys xs:List α} (hp:ys.Perm xs) (hn:xs.Nodup) (hs:ys.Pairwise fun a b=>¬ lt b a):ys = ascG lt xs:=by
 refine ascG_ext O (ascG_of_sorted O hs (hp.symm.nodup hn)) (ascG_asc O xs) fun a=>by rw [hp.mem_iff,mem_ascG]
end
def V3.lt (a b:V3):Prop:=a.x < b.x ∨ (a.x = b.x∧(a.y < b.y ∨ (a.y = b.y∧a.z < b.z)))
instance:DecidableRel V3.lt:=fun a b=>by unfold V3.lt;infer_instance
theorem V3.ltO:LtOrd V3.lt where
 irr a:=by unfold V3.lt;omega
 tr h1 h2:=by unfold V3.lt at *;omega
 tot {a b} h h':=by
  unfold V3.lt at *
  have h1:a.x = b.x:=by omega
  have h2:a.y = b.y:=by omega
  have h3:a.z = b.z:=by omega
  cases a;cases b;simp_all
end Go.Abs
set_option linter.unusedVariables false
set_option linter.unusedSimpArgs false
namespace Go.Abs
theorem nodup_lenW {α:Type} [DecidableEq α]:∀ {l k:List α},l.Nodup→(∀ a ∈ l,a ∈ k)→l.length ≤ k.length
 | [],k,_,_=>by simp
 | x :: l,k,hn,hs=>by
   have hc:=List.nodup_cons.1 hn
   have hx:=hs x (by simp)
   have:=nodup_lenW (l:=l) (k:=k.erase x) hc.2 (fun a ha=>by
    have hne:a ≠ x:=by rintro rfl;exact hc.1 ha
    exact (List.mem_erase_of_ne hne).2 (hs a (by simp [ha])))
   rw [List.length_erase_of_mem hx] at this
   have:=List.length_pos_of_mem hx
   simp only [List.length_cons];omega
def Mesh.cor (m:Mesh) (t:T3):List V3:=[m.v t.a,m.v t.b,m.v t.c]
def Mesh.usedL (m:Mesh) (ts:List T3):List V3:=ts.flatMap m.cor
def Mesh.wverts (m:Mesh):List V3:=ascG V3.lt (m.usedL m.tris)
def idxV (l:List V3) (v:V3):Int:=(l.idxOf v:Nat)
def wtri (m:Mesh) (W:List V3) (t:T3):T3:=⟨idxV W (m.v t.a),idxV W (m.v t.b),idxV W (m.v t.c)⟩
def Mesh.weldM (m:Mesh):Mesh:=⟨m.wverts,m.tris.map (wtri m m.wverts)⟩
theorem wverts_asc (m:Mesh):m.wverts.Pairwise V3.lt:=ascG_asc V3.ltO _
theorem mem_wverts {m:Mesh} {v:V3}:v ∈ m.wverts ↔ ∃ t ∈ m.tris,v ∈ m.cor t:=by
 unfold Mesh.wverts Mesh.usedL
 rw [mem_ascG,List.mem_flatMap]
theorem Mesh.v_mem {m:Mesh} {i:Int} (h0:0 ≤ i) (hi:i < m.verts.length):m.v i ∈ m.verts:=by
 have hlt:i.toNat < m.verts.length:=by omega
 have:m.verts[i.toNat]? = some (m.v i):=by rw [List.getElem?_eq_getElem hlt,m.v_get hi hlt]
 exact List.mem_of_getElem? this
theorem idxV_get {l:List V3} {v:V3} (h:v ∈ l):l[(idxV l v).toNat]? = some v:=by
 have hlt:=List.idxOf_lt_length_iff.2 h
 unfold idxV
 rw [Int.toNat_natCast,List.getElem?_eq_getElem hlt,List.getElem_idxOf hlt]
theorem idxV_range {l:List V3} {v:V3} (h:v ∈ l):0 ≤ idxV l v∧idxV l v < l.length:=by
 have hlt:=List.idxOf_lt_length_iff.2 h
 unfold idxV;omega
theorem idxV_of_get {l:List V3} (hn:l.Nodup) {i:Nat} {v:V3} (h:l[i]? = some v):idxV l v = i:=by
 obtain⟨hlt,rfl⟩:=List.getElem?_eq_some_iff.1 h
 unfold idxV
 rw [hn.idxOf_getElem]
theorem tok {m:Mesh} (h:m.check = 0) {t:T3} (ht:t ∈ m.tris):0 ≤ t.a∧t.a < m.verts.length∧0 ≤ t.b∧t.b < m.verts.length∧0 ≤ t.c∧t.c < m.verts.length :=
 T3.ok_iff.1 (List.all_eq_true.1 (Mesh.check_zero.1 h).2.2.2 t ht)
theorem wverts_len {m:Mesh} (h:m.check = 0):m.wverts.length ≤ m.verts.length:=by
 refine nodup_lenW (ascG_nodup V3.ltO (wverts_asc m)) fun a ha=>?_
 obtain⟨t,ht,hv⟩:=mem_wverts.1 ha
 obtain⟨h1,h2,h3,h4,h5,h6⟩:=tok h ht
 simp only [Mesh.cor,List.mem_cons,List.not_mem_nil,or_false] at hv
 rcases hv with rfl | rfl | rfl
 ·exact Mesh.v_mem h1 h2
 ·exact Mesh.v_mem h3 h4
 ·exact Mesh.v_mem h5 h6
theorem weld_v {m:Mesh} {v:V3} (h:v ∈ m.wverts):m.weldM.v (idxV m.wverts v) = v:=by
 show (m.wverts[(idxV m.wverts v).toNat]?).getD _ = v
 rw [idxV_get h];rfl
theorem cor_mem {m:Mesh} {t:T3} (ht:t ∈ m.tris):m.v t.a ∈ m.wverts∧m.v t.b ∈ m.wverts∧m.v t.c ∈ m.wverts:=by
 refine⟨mem_wverts.2 ⟨t,ht,?_⟩,mem_wverts.2 ⟨t,ht,?_⟩,mem_wverts.2 ⟨t,ht,?_⟩⟩ <;> simp [Mesh.cor]
theorem weld_cor {m:Mesh} {t:T3} (ht:t ∈ m.tris):m.weldM.cor (wtri m m.wverts t) = m.cor t:=by
 obtain⟨h1,h2,h3⟩:=cor_mem ht
 simp only [Mesh.cor,wtri,weld_v h1,weld_v h2,weld_v h3]
theorem weld_weld {m:Mesh} (h:m.check = 0):m.weldM.weldM = m.weldM:=by
 have hv:m.weldM.wverts = m.wverts:=by
  refine ascG_ext V3.ltO (wverts_asc _) (wverts_asc _) fun v=>?_
  rw [mem_wverts,mem_wverts]
  constructor
  ·rintro⟨t,ht,hv⟩
   obtain⟨s,hs,rfl⟩:=List.mem_map.1 (show t ∈ m.tris.map _ from ht)
   rw [weld_cor hs] at hv
   exact⟨s,hs,hv⟩
  ·rintro⟨s,hs,hv⟩
   exact⟨wtri m m.wverts s,List.mem_map.2 ⟨s,hs,rfl⟩,by rw [weld_cor hs];exact hv⟩
 have ht:m.weldM.tris.map (wtri m.weldM m.wverts) = m.weldM.tris:=by
  show (m.tris.map (wtri m m.wverts)).map _ = m.tris.map _
  rw [List.map_map]
  refine List.map_congr_left fun t ht=>?_
  obtain⟨h1,h2,h3⟩:=cor_mem ht
  simp only [Function.comp,wtri,weld_v h1,weld_v h2,weld_v h3]
 show Mesh.mk m.weldM.wverts (m.weldM.tris.map (wtri m.weldM m.weldM.wverts)) = _
 rw [hv,ht];rfl
def T3.lt (s t:T3):Prop:=s.a < t.a ∨ (s.a = t.a∧(s.b < t.b ∨ (s.b = t.b∧s.c < t.c)))
instance:DecidableRel T3.lt:=fun a b=>by unfold T3.lt;infer_instance
theorem T3.ltO:LtOrd T3.lt where
 irr a:=by unfold T3.lt;omega
 tr h1 h2:=by unfold T3.lt at *;omega
 tot {a b} h h':=by
  unfold T3.lt at *
  have h1:a.a = b.a:=by omega
  have h2:a.b = b.b:=by omega
  have h3:a.c = b.c:=by omega
  cases a;cases b;simp_all
def T3.rot (t:T3):T3:=⟨t.b,t.c,t.a⟩
def T3.least (x t:T3):T3:=if T3.lt t x then t else x
def T3.turned (t:T3):T3:=T3.least (T3.least t t.rot) t.rot.rot
def T3.twins (a b:T3):Bool:=decide (a = b) || (decide (a = b.rot) || decide (a = b.rot.rot))
theorem T3.rot3 (t:T3):t.rot.rot.rot = t:=rfl
theorem least_mem (x t:T3):T3.least x t = x ∨ T3.least x t = t:=by unfold T3.least;split <;> simp
theorem least_le (x t:T3):¬ T3.lt x (T3.least x t)∧¬ T3.lt t (T3.least x t):=by
 unfold T3.least
 split
 ·rename_i h;exact⟨T3.ltO.asymm h,T3.ltO.irr _⟩
 ·rename_i h;exact⟨T3.ltO.irr _,h⟩
theorem turned_mem (t:T3):t.turned = t ∨ t.turned = t.rot ∨ t.turned = t.rot.rot:=by
 unfold T3.turned
 rcases least_mem (T3.least t t.rot) t.rot.rot with h | h <;> rw [h]
 ·rcases least_mem t t.rot with h | h <;> rw [h] <;> simp
 ·simp
theorem not_lt_trans {a b c:T3} (h1:¬ T3.lt a b) (h2:¬ T3.lt b c):¬ T3.lt a c:=by unfold T3.lt at *;omega
theorem turned_le (t:T3):¬ T3.lt t t.turned∧¬ T3.lt t.rot t.turned∧¬ T3.lt t.rot.rot t.turned:=by
 unfold T3.turned
 have h1:=least_le t t.rot
 have h2:=least_le (T3.least t t.rot) t.rot.rot
 exact⟨not_lt_trans h1.1 h2.1,not_lt_trans h1.2 h2.1,h2.2⟩
theorem turned_rot (t:T3):t.rot.turned = t.turned:=by
 have h1:=turned_le t
 have h2:=turned_le t.rot
 rw [T3.rot3] at h2
 refine T3.ltO.tot ?_ ?_
 ·rcases turned_mem t.rot with h | h | h
  ·rw [h];exact h1.2.1
  ·rw [h];exact h1.2.2
  ·rw [h,T3.rot3];exact h1.1
 ·rcases turned_mem t with h | h | h
  ·rw [h];exact h2.2.2
  ·rw [h];exact h2.1
  ·rw [h];exact h2.2.1
theorem turned_iff {a b:T3}:a.turned = b.turned ↔ a.twins b = true:=by
 simp only [T3.twins,Bool.or_eq_true,decide_eq_true_eq]
 constructor
 ·intro h
  have key:∀ t:T3,t = t.turned ∨ t = t.turned.rot ∨ t = t.turned.rot.rot:=by
   intro t
   rcases turned_mem t with h | h | h
   ·left;exact h.symm
   ·right;right;rw [h];rfl
   ·right;left;rw [h];rfl
  have ka:=key a
  rcases turned_mem b with hb | hb | hb <;> rw [h,hb] at ka <;> try simp only [T3.rot3] at ka
  ·exact ka
  ·rcases ka with k | k | k
   ·exact .inr (.inl k)
   ·exact .inr (.inr k)
   ·exact .inl k
  ·rcases ka with k | k | k
   ·exact .inr (.inr k)
   ·exact .inl k
   ·exact .inr (.inl k)
 ·rintro (rfl | rfl | rfl)
  ·rfl
  ·exact turned_rot b
  ·rw [turned_rot,turned_rot]
def V3.sub (a b:V3):V3:=⟨a.x - b.x,a.y - b.y,a.z - b.z⟩
def V3.crs (a b:V3):V3:=⟨a.y * b.z - a.z * b.y,a.z * b.x - a.x * b.z,a.x * b.y - a.y * b.x⟩
def collin (a b c:V3):Bool:=a.valid && (b.valid && (c.valid && decide ((b.sub a).crs (c.sub a) = ⟨0,0,0⟩)))
def Mesh.deg (m:Mesh) (t:T3):Bool:=collin (m.v t.a) (m.v t.b) (m.v t.c)
structure Cl where
 out:List T3
 deg:Nat
 twin:Nat
def Cl.step (dg:T3→Bool) (s:Cl) (t:T3):Cl:=if dg t then ⟨s.out,s.deg + 1,s.twin⟩ else if s.out.any (T3.twins t) then ⟨s.out,s.deg,s.twin + 1⟩ else ⟨s.out ++ [t],s.deg,s.twin⟩
def cleanL (dg:T3→Bool) (ts:List T3):Cl:=ts.foldl (Cl.step dg) ⟨[],0,0⟩
theorem cleanL_snoc (dg:T3→Bool) (ts:List T3) (t:T3):cleanL dg (ts ++ [t]) = (cleanL dg ts).step dg t:=by simp [cleanL]
theorem cleanL_succ (dg:T3→Bool) {ts:List T3} {k:Nat} {t:T3} (h:ts[k]? = some t):cleanL dg (ts.take (k + 1)) = (cleanL dg (ts.take k)).step dg t:=by
 rw [List.take_add_one,h];exact cleanL_snoc dg _ t
def Mesh.cleanM (m:Mesh):Mesh:=⟨m.verts,(cleanL m.deg m.tris).out⟩
structure ClOk (dg:T3→Bool) (ts:List T3) (s:Cl):Prop where
 sub:s.out.Sublist ts
 sum:s.out.length + s.deg + s.twin = ts.length
 deg:∀ t ∈ s.out,dg t = false
 twin:s.out.Pairwise fun a b=>b.twins a = false
theorem cleanL_ok (dg:T3→Bool) (ts:List T3):ClOk dg ts (cleanL dg ts):=by
 refine rev_ind (p:=fun ts=>ClOk dg ts (cleanL dg ts)) ?_ ?_ ts
 ·exact⟨.slnil,rfl,by simp [cleanL],by simp [cleanL]⟩
 ·intro E x ih
  rw [cleanL_snoc]
  unfold Cl.step
  have hs:=ih.sum
  split
  ·exact⟨ih.sub.trans (List.sublist_append_left _ _),by simp;omega,ih.deg,ih.twin⟩
  ·rename_i hd
   split
   ·exact⟨ih.sub.trans (List.sublist_append_left _ _),by simp;omega,ih.deg,ih.twin⟩
   ·rename_i ht
    refine⟨ih.sub.append (List.Sublist.refl _),by simp;omega,fun t h=>?_,?_⟩
    ·rcases List.mem_append.1 h with h | h
     ·exact ih.deg t h
     ·simp at h;subst h;simpa using hd
    ·simp only
     rw [List.pairwise_append]
     refine⟨ih.twin,by simp,fun a ha b hb=>?_⟩
     simp at hb;subst hb
     rw [Bool.eq_false_iff]
     intro h
     exact ht (List.any_eq_true.2 ⟨a,ha,h⟩)
end Go.Abs
