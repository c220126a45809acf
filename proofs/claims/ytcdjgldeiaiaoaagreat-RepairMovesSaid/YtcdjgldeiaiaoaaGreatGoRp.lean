/- Part of the library on which the proof stands: an abstract machine, its values and its soundness against the model; or what functions of the program do to such values. -/
import Derived.Test.YtcdjgldeiaiaoaaGreatGoToB
import Derived.Test.YtcdjgldeiaiaoaaGreatGoShpF
import Derived.Test.YtcdjgldeiaiaoaaGreatGoDet
import Derived.Test.YtcdjgldeiaiaoaaGreatGoSecH
set_option linter.unusedVariables false
set_option linter.unusedSimpArgs false
namespace Go.Abs
def mixed {α:Type} (l:List α) (g:α→α) (k:Nat):List α:=(l.take k).map g ++ l.drop k
theorem mixed_len {α:Type} (l:List α) (g:α→α) (k:Nat):(mixed l g k).length = l.length:=by simp [mixed];omega
theorem mixed_get {α:Type} {l:List α} {g:α→α} {k:Nat} (h:k < l.length):(mixed l g k)[k]? = some l[k]:=by
 rw [mixed,List.getElem?_append_right (by simp;omega)];simp;rw [show k + (k - min k l.length) = k by omega];simp [h]
theorem mixed_set {α:Type} {l:List α} {g:α→α} {k:Nat} (h:k < l.length):(mixed l g k).set k (g l[k]) = mixed l g (k + 1):=by
 rw [mixed,List.set_append_right _ _ (by simp;omega),show k - ((l.take k).map g).length = 0 by simp;omega]
 rw [List.drop_eq_getElem_cons h,List.set_cons_zero,mixed,List.take_add_one,List.getElem?_eq_getElem h]
 simp only [Option.toList,List.map_append,List.map_cons,List.map_nil,List.append_assoc,List.cons_append,List.nil_append]
theorem mixed_0 {α:Type} (l:List α) (g:α→α):mixed l g 0 = l:=by simp [mixed]
theorem mixed_all {α:Type} (l:List α) (g:α→α):mixed l g l.length = l.map g:=by simp [mixed]
def Mesh.mapV (m:Mesh) (g:V3→V3):Mesh:=⟨m.verts.map g,m.tris⟩
section
variable {P:Program} (hm:P.follows .mixedOrders = true)
include hm
omit hm in
set_option maxHeartbeats 8000000 in
theorem change_walk {fcv fct fn:FuncId} {caps:List V} {h:List O} {T:List Nat} {g:V3→V3} {κ:X→St→Prop} (m:Mesh) (hv:m.verts.length ≤ 4096) (ht:m.tris.length ≤ 4096)
  (hcv:CloneC P fcv 3) (hct:CloneC P fct 3) (hcal:callable P fn = true) (hT:∀ id ∈ T,id < h.length) (hcaps:∀ n,h.length ≤ n→(V.f fn caps).cl n = true)
  (hcl:∀ n,h.length ≤ n→∀ o ∈ h,o.cl n)
  (hclo:∀ v ∈ m.verts,∀ h2:List O,(∀ id ∈ T,h2[id]? = h[id]?)→ACall P fn (v.enc :: caps) h2 (fun r h'=>r = (g v).enc∧h' = h2))
  (hk:∀ env,get 4 env = .p (h.length + 1) 1 0 0→κ .r ⟨env,h ++ [.dead,.arr 1 2 [[.own (h.length + 2) 1 0 m.verts.length,.own (h.length + 3) 1 0 m.tris.length]],.arr 1 3 ((m.verts.map g).map V3.cs),.arr 1 3 (m.tris.map T3.cs),.arr 1 2 [[.own (h.length + 2) 1 0 m.verts.length,.own (h.length + 3) 1 0 m.tris.length]]]⟩) :
  AS P h.length (shapes_change.c fcv fct) ⟨envFrom 0 [m.enc,.f fn caps],h⟩ κ:=by
 unfold shapes_change.c
 simp [go_sem,Mesh.enc,Mesh.cs,vsV,tsV,app_get_r,app_get_0,app_set_r,app_set_0]
 refine DCall_new (hcv _ (by simp [vcs_isD]) (by simp;omega)) rfl ?_
 simp [go_sem,app_get_r,app_get_0,app_set_r,app_set_0,sh_vcs]
 refine DCall_new (hct _ (by simp [tcs_isD]) (by simp;omega)) rfl ?_
 simp [go_sem,app_get_r,app_get_0,app_set_r,app_set_0,sh_vcs,sh_tcs]
 refine AS_loop (α:=Nat) (fun k=>k ≤ m.verts.length)
  (fun k=>⟨[(1,.f fn caps),(4,.p (h.length + 1) 1 0 0),(5,.p (h.length + 4) 1 0 0),(16,.own (h.length + 2) 1 0 m.verts.length),(17,.i .i64 m.verts.length),(18,.i .i64 k)],
   h ++ [.dead,.arr 1 2 [[.nil,.nil]],.arr 1 3 ((mixed m.verts g k).map V3.cs),.arr 1 3 (m.tris.map T3.cs),.arr 1 2 [[.own (h.length + 2) 1 0 m.verts.length,.own (h.length + 3) 1 0 m.tris.length]]]⟩)
  (fun k=>m.verts.length - k) 0 (Nat.zero_le _) ?_ ?_
 ·simp [go_sem,mixed_0]
  refine⟨fun x hx=>?_,WeakH_app (hcl _ (by omega)) ?_⟩
  ·have:=hcaps (h.length + 5) (by omega)
   simp only [V.cl,V.cl1,List.all_eq_true] at this
   exact this x hx
  ·simp [go_sem,or_imp,forall_and,V.cl,V.cl1,V.cl0,vcs,tcs]
 ·intro k hk0
  have hml:=mixed_len m.verts g k
  by_cases hkl:k = m.verts.length
  ·subst hkl
   rw [mixed_all]
   have hk2:=hk [(1,V.f fn caps),(4,V.p (h.length + 1) 1 0 0),(5,V.p (h.length + 4) 1 0 0),(16,V.own (h.length + 2) 1 0 m.verts.length),(17,V.i .i64 m.verts.length),(18,V.i .i64 m.verts.length),(19,V.b false),(31,V.a [V.own (h.length + 2) 1 0 m.verts.length,V.own (h.length + 3) 1 0 m.tris.length])] rfl
   rw [List.map_map] at hk2
   simp [go_sem,app_get_r,app_get_0,app_set_r,app_set_0]
   exact hk2
  ·have hlt:k < m.verts.length:=by omega
   have hget:=mixed_get (g:=g) hlt
   have hset:=mixed_set (g:=g) hlt
   have hgete:∀ h',(mixed m.verts g k)[k]'h' = m.verts[k]:=fun h'=>(List.getElem_eq_iff h').2 hget
   simp [go_sem,app_get_r,app_get_0,app_set_r,app_set_0,hlt,hml,hgete,vcs]
   refine⟨hcal,?_⟩
   refine DCall_read (T:=T) (r:=(g m.verts[k]).enc) (fun id hid=>⟨by have:=hT id hid;omega,by have:=hT id hid;simp;omega⟩) (fun h2 hag=>hclo m.verts[k] (List.getElem_mem hlt) h2 (fun id hid=>?_)) (chk_read (by simp)) ?_
   ·rw [hag id hid,List.getElem?_append_left (hT id hid)]
   simp [go_sem,app_get_r,app_get_0,app_set_r,app_set_0,hlt,hml,V3.enc,vcs]
   have hcc:∀ x ∈ caps,V.cl0 (h.length + 5) x = true:=fun x hx=>by
    have:=hcaps (h.length + 5) (by omega)
    simp only [V.cl,V.cl1,List.all_eq_true] at this
    exact this x hx
   have hset2:(List.map V3.cs (mixed m.verts g k)).set k [V.i .i64 (g m.verts[k]).x,V.i .i64 (g m.verts[k]).y,V.i .i64 (g m.verts[k]).z] = List.map V3.cs (mixed m.verts g (k + 1)):=by
    rw [← hset,List.map_set];rfl
   rw [hset2]
   refine⟨k + 1,by omega,by omega,⟨hcc,wrap64_small (by omega) (by omega)⟩,WeakH_app (hcl _ (by omega)) ?_⟩
   simp [go_sem,or_imp,forall_and,V.cl,V.cl1,V.cl0,vcs,tcs]
theorem change_own {f fcv fct fn:FuncId} {caps:List V} {h:List O} {T:List Nat} {g:V3→V3} (hf:FnOk P f (shapes_change.c fcv fct) shapes_change.r shapes_change.n) (m:Mesh) (hv:m.verts.length ≤ 4096) (ht:m.tris.length ≤ 4096)
  (hcv:CloneC P fcv 3) (hct:CloneC P fct 3) (hcal:callable P fn = true) (hT:∀ id ∈ T,id < h.length) (hcaps:∀ n,h.length ≤ n→(V.f fn caps).cl n = true)
  (hcl:∀ n,h.length ≤ n→∀ o ∈ h,o.cl n)
  (hclo:∀ v ∈ m.verts,∀ h2:List O,(∀ id ∈ T,h2[id]? = h[id]?)→ACall P fn (v.enc :: caps) h2 (fun r h'=>r = (g v).enc∧h' = h2)) :
  ACall P f [m.enc,.f fn caps] h (fun r h'=>r = .a [.own (h.length + 2) 1 0 m.verts.length,.own (h.length + 3) 1 0 m.tris.length] ∧
   h' = h ++ [.dead,.dead,.arr 1 3 ((m.verts.map g).map V3.cs),.arr 1 3 (m.tris.map T3.cs)]):=by
 refine call_intro hm hf (Nat.le_of_ble_eq_true rfl) (change_walk m hv ht hcv hct hcal hT hcaps hcl hclo fun env he=>?_)
 rw [DoneA_r]
 refine⟨[.a [.own (h.length + 2) 1 0 m.verts.length,.own (h.length + 3) 1 0 m.tris.length]],h ++ [.dead,.dead,.arr 1 3 ((m.verts.map g).map V3.cs),.arr 1 3 (m.tris.map T3.cs)],?_,rfl,?_,?_,?_,?_,rfl,rfl⟩
 ·simp [shapes_change.r,readR,he,go_sem,app_get_r]
 ·simp [V.cl,V.cl1,V.cl0]
 ·simp
 ·simp
 ·refine WeakH_app (hcl _ (by simp)) ?_
  simp [go_sem,or_imp,forall_and,V.cl,V.cl1,V.cl0,vcs,tcs]
end
end Go.Abs
set_option linter.unusedVariables false
set_option linter.unusedSimpArgs false
namespace Go.Abs
theorem CallIs.pure {P:Program} {f:FuncId} {vs:List V} {r:V} (h:CallIs P f vs r):PureC P f vs (· = r):=h []
end Go.Abs
set_option linter.unusedVariables false
set_option linter.unusedSimpArgs false
namespace Go.Abs
def moveV (m:Mesh) (d:V3):V :=
 if m.check ≠ 0 then mesV noMesh 1 else if vsOk (m.verts.map (·.add d)) = false then mesV noMesh 8 else mesV (m.mapV (·.add d)) 0
def MoveC (P:Program) (f:FuncId):Prop:=∀ (m:Mesh) (d:V3),d.inR = true→CallIs P f [m.enc,d.enc] (moveV m d)
def CheckedC (P:Program) (f:FuncId):Prop:=∀ m:Mesh,m.verts.length ≤ 1000000→CallIs P f [m.enc] (if vsOk m.verts = false then mesV noMesh 8 else mesV m 0)
section
variable {P:Program} (hm:P.follows .mixedOrders = true)
include hm
theorem shapes_checked_ok {f ff:FuncId} (hf:FnOk P f (shapes_checked.c ff) shapes_checked.r shapes_checked.n) (hfit:FitsVC P ff):CheckedC P f:=by
 intro m hml
 cases h1:vsOk m.verts
 ·rw [if_pos rfl]
  refine CallIs.res (r:=.t [.a [.nil,.nil],.i .i64 8]) ?_ (noMesh_le 8)
  refine PureC.is (pure_of hm hf (Nat.le_of_ble_eq_true rfl) ?_) rfl
  unfold shapes_checked.c
  simp [go_sem,Mesh.enc,Mesh.cs]
  refine ACall_is (hfit m.verts hml) ?_
  simp [go_sem,h1,shapes_checked.r]
 rw [if_neg (by simp)]
 refine PureC.is (pure_of hm hf (Nat.le_of_ble_eq_true rfl) ?_) rfl
 unfold shapes_checked.c
 simp [go_sem,Mesh.enc,Mesh.cs]
 refine ACall_is (hfit m.verts hml) ?_
 simp [go_sem,h1,shapes_checked.r,mesV,Mesh.enc,Mesh.cs,vsV,tsV]
theorem Move_1_ok {f fp:FuncId} (hf:FnOk P f (shapes_Move_1.c fp) shapes_Move_1.r shapes_Move_1.n) (hp:PlusC P fp) (v d:V3) {h:List O} {id:Nat} (ho:h[id]? = some (.arr 1 3 [d.cs])) :
  ACall P f [v.enc,.p id 1 0 0] h (fun r h'=>r = (v.plus d).enc∧h' = h):=by
 have hlt:id < h.length:=(List.getElem?_eq_some_iff.1 ho).1
 have hap:∀ l:List O,(h ++ l)[id]? = some (.arr 1 3 [d.cs]):=fun l=>by rw [List.getElem?_append_left hlt];exact ho
 refine ACall_closed fun hcl=>?_
 refine call_intro hm hf (Nat.le_of_ble_eq_true rfl) ?_
 unfold shapes_Move_1.c
 simp [go_sem,V3.enc,vcs,app_get_r,app_get_0,app_set_r,app_set_0,hap]
 refine ACall_is (hp v d) ?_
 simp [go_sem,V3.enc,vcs,app_get_r,app_get_0,app_set_r,app_set_0,hap]
 refine⟨[(v.plus d).enc],by simp [shapes_Move_1.r,go_sem,app_get_r,V3.enc,vcs],by simp [V3.enc],h,by simp [V3.enc,vcs,V.cl,V.cl1,V.cl0],Nat.le_refl _,by omega,?_,rfl,rfl⟩
 have:=WeakH_app (n:=h.length) (a:=[.arr 1 3 [v.cs],.arr 1 3 [(v.plus d).cs]]) (b:=[]) (hcl h.length (Nat.le_refl _)) trivial
 rw [List.append_nil] at this
 exact this
set_option maxHeartbeats 4000000 in
theorem shapes_Move_ok {f fk fn f1 fch fck:FuncId} (hf:FnOk P f (shapes_Move.c fk fn f1 fch fck) shapes_Move.r shapes_Move.n) (hk:CheckC P fk) (hnear:NearC P fn)
  {fcv fct fp:FuncId} (hfch:FnOk P fch (shapes_change.c fcv fct) shapes_change.r shapes_change.n) (hcv:CloneC P fcv 3) (hct:CloneC P fct 3) (hf1:FnOk P f1 (shapes_Move_1.c fp) shapes_Move_1.r shapes_Move_1.n) (hcal:callable P f1 = true) (hp:PlusC P fp) (hck:CheckedC P fck):MoveC P f:=by
 intro m d hd
 by_cases h1:m.check = 0
 case neg =>
  have:moveV m d = mesV noMesh 1:=by simp [moveV,h1]
  rw [this]
  refine CallIs.res (r:=.t [.a [.nil,.nil],.i .i64 1]) ?_ (noMesh_le 1)
  refine PureC.is (pure_of hm hf (Nat.le_of_ble_eq_true rfl) ?_) rfl
  unfold shapes_Move.c
  simp [go_sem,Mesh.enc,Mesh.cs,V3.enc,V3.cs]
  refine ACall_is (hk m) ?_
  simp [go_sem,h1,shapes_Move.r]
 obtain⟨z1,z2,z3,z4⟩:=Mesh.check_zero.1 h1
 by_cases h2:0 < m.verts.length∧d.within 131072 = false
 ·have:moveV m d = mesV noMesh 8:=by
   have:vsOk (m.verts.map (·.add d)) = false:=by
    cases hvs:m.verts with
    | nil=>rw [hvs] at h2;simp at h2
    | cons v r =>
      rw [Bool.eq_false_iff]
      intro h3
      simp only [vsOk,List.map_cons,List.all_cons,Bool.and_eq_true] at h3
      have hv:v.valid = true:=vsOk_get z3 (k:=0) (by rw [hvs];rfl)
      have:=within_of_add hv h3.1
      rw [this] at h2;simp at h2
   simp [moveV,h1,this]
  rw [this]
  refine CallIs.res (r:=.t [.a [.nil,.nil],.i .i64 8]) ?_ (noMesh_le 8)
  refine PureC.is (pure_of hm hf (Nat.le_of_ble_eq_true rfl) ?_) rfl
  unfold shapes_Move.c
  simp [go_sem,Mesh.enc,Mesh.cs,V3.enc,V3.cs]
  refine ACall_is (hk m) ?_
  simp [go_sem,h1,vsV,h2.1]
  refine ACall_is (hnear d) ?_
  simp [go_sem,h2.2,shapes_Move.r]
 have hg:∀ v ∈ m.verts,v.plus d = v.add d:=by
  intro v hv
  have hne:0 < m.verts.length:=List.length_pos_of_mem hv
  have hw:d.within 131072 = true:=by
   cases hd2:d.within 131072
   ·exact absurd ⟨hne,hd2⟩ h2
   ·rfl
  obtain⟨i,hi⟩:=List.getElem?_of_mem hv
  exact plus_add (vsOk_get z3 hi) hw
 have hmap:m.verts.map (fun v=>v.plus d) = m.verts.map (fun v=>v.add d):=List.map_congr_left hg
 have hres:moveV m d = if vsOk (m.mapV (·.add d)).verts = false then mesV noMesh 8 else mesV (m.mapV (·.add d)) 0:=by
  unfold moveV;rw [if_neg (by simp [h1])];rfl
 have hexm:∃ m' e,moveV m d = mesV m' e:=by
  rw [hres];split
  ·exact⟨_,_,rfl⟩
  ·exact⟨_,_,rfl⟩
 have hck':=hck (m.mapV (·.add d)) (by simp [Mesh.mapV];omega)
 rw [← hres] at hck'
 obtain⟨m',e,hme⟩:=hexm
 rw [hme] at hck' ⊢
 have hchg:=change_own hm (h:=[.arr 1 2 [m.cs],.arr 1 3 [d.cs],.arr 1 2 [[.nil,.nil]]]) (T:=[1]) (caps:=[.p 1 1 0 0]) (g:=fun v=>v.plus d) hfch m z1 z2 hcv hct hcal (by simp)
  (by intro n hn;simp [V.cl,V.cl1,V.cl0];simp at hn;omega)
  (by intro n hn o ho;simp at ho;rcases ho with rfl | rfl | rfl <;> simp [O.cl,Mesh.cs,vsV,tsV,vcs,or_imp,forall_and,V.cl,V.cl1,V.cl0])
  (fun v hv h2 hag=>Move_1_ok hm hf1 hp v d (by rw [hag 1 (by simp)];rfl))
 rw [hmap] at hchg
 refine PureC.is (pure_of hm hf (Nat.le_of_ble_eq_true rfl) ?_) rfl
 unfold shapes_Move.c
 simp [go_sem,Mesh.enc,Mesh.cs,V3.enc,V3.cs]
 refine ACall_is (hk m) ?_
 by_cases h3:0 < m.verts.length
 case pos =>
  have hw:d.within 131072 = true:=by
   cases hd2:d.within 131072
   ·exact absurd ⟨h3,hd2⟩ h2
   ·rfl
  simp [go_sem,h1,vsV,h3]
  refine ACall_is (hnear d) ?_
  simp [go_sem,hw]
  refine ACall_to hchg ?_
  simp [go_sem]
  refine ACall_frz (vs:=[(m.mapV (·.add d)).enc]) ?_ hck' ?_
  ·simp [go_sem,frzAll,frz,frz0,Mesh.mapV,Mesh.enc,Mesh.cs,vsV,tsV,vcs_isD,tcs_isD]
  simp [go_sem,shapes_Move.r,mesV,Mesh.enc,Mesh.cs,vsV,tsV]
 case neg =>
  simp [go_sem,h1,vsV,h3]
  refine ACall_to hchg ?_
  simp [go_sem]
  refine ACall_frz (vs:=[(m.mapV (·.add d)).enc]) ?_ hck' ?_
  ·simp [go_sem,frzAll,frz,frz0,Mesh.mapV,Mesh.enc,Mesh.cs,vsV,tsV,vcs_isD,tcs_isD]
  simp [go_sem,shapes_Move.r,mesV,Mesh.enc,Mesh.cs,vsV,tsV]
end
end Go.Abs
set_option linter.unusedVariables false
set_option linter.unusedSimpArgs false
namespace Go.Abs
theorem mapV_check {m:Mesh} (hz:m.check = 0) {g:V3→V3} (hg:vsOk (m.verts.map g) = true):(m.mapV g).check = 0:=by
 obtain⟨z1,z2,z3,z4⟩:=Mesh.check_zero.1 hz
 refine Mesh.check_zero.2 ⟨by simpa [Mesh.mapV] using z1,z2,hg,?_⟩
 simpa [Mesh.mapV] using z4
def V3.neg (d:V3):V3:=⟨IntKind.i64.wrap (0 - d.x),IntKind.i64.wrap (0 - d.y),IntKind.i64.wrap (0 - d.z)⟩
theorem vAt_map {vs:List V3} {g:V3→V3} {i:Int} (h0:0 ≤ i) (h:i < vs.length):vAt (vs.map g) i = g (vAt vs i):=by
 have h1:=vAt_get h0 h
 unfold vAt
 rw [List.getElem?_map,h1];rfl
theorem volT_map {vs:List V3} {g:V3→V3} {t:T3} (ht:t.ok vs.length = true):volT (vs.map g) t = det3 (g (vAt vs t.a)) (g (vAt vs t.b)) (g (vAt vs t.c)):=by
 obtain⟨a1,a2,b1,b2,c1,c2⟩:=T3.ok_iff.1 ht
 unfold volT
 rw [vAt_map a1 a2,vAt_map b1 b2,vAt_map c1 c2]
theorem vol6_ok {m:Mesh} (hz:m.check = 0):m.vol6 = volL m.verts m.tris:=by unfold Mesh.vol6;rw [if_pos hz]
theorem closed_cnt {m:Mesh} (h:m.closed = true) (e:P2):(alluses m.tris).count e = (alluses m.tris).count e.rev:=by
 have key:∀ e:P2,(alluses m.tris).count e ≤ (alluses m.tris).count e.rev:=by
  intro e
  unfold Mesh.closed at h
  simp only [Bool.and_eq_true,decide_eq_true_eq] at h
  obtain⟨hz,hb⟩:=h
  by_cases he:e ∈ alluses m.tris
  ·have hne:¬ e ∈ m.border:=by rw [hb];simp
   rw [mem_border] at hne
   have h1:¬ m.use e.rev < m.use e:=fun hh=>hne ⟨hz,he,hh⟩
   unfold Mesh.use at h1
   rw [if_pos hz,if_pos hz] at h1
   omega
  ·rw [List.count_eq_zero_of_not_mem he];omega
 have h1:=key e
 have h2:=key e.rev
 rw [show e.rev.rev = e from rfl] at h2
 omega
theorem closed_permR {m:Mesh} (h:m.closed = true):(alluses m.tris).Perm ((alluses m.tris).map P2.rev):=by
 rw [List.perm_iff_count]
 intro e
 rw [closed_cnt h e,List.count,List.count,List.countP_map]
 refine List.countP_congr fun x _=>?_
 simp only [Function.comp,beq_iff_eq]
 constructor
 ·rintro rfl;rfl
 ·rintro rfl;rfl
theorem perm_sum {a b:List Int} (h:a.Perm b):a.sum = b.sum:=by
 induction h with
 | nil=>rfl
 | cons x _ ih=>simp only [List.sum_cons,ih]
 | swap x y l=>simp only [List.sum_cons];omega
 | trans _ _ h1 h2=>rw [h1,h2]
theorem closed_sum {m:Mesh} (h:m.closed = true) {g:P2→Int} (hg:∀ e,g e.rev = - g e):((alluses m.tris).map g).sum = 0:=by
 have h1:=perm_sum ((closed_permR h).map g)
 rw [List.map_map] at h1
 have h2:∀ l:List P2,(l.map (g ∘ P2.rev)).sum = - (l.map g).sum:=by
  intro l
  induction l with
  | nil=>rfl
  | cons a l ih=>simp only [List.map_cons,List.sum_cons,ih,Function.comp,hg];omega
 rw [h2] at h1
 omega
theorem sum_alluses (g:P2→Int) (hg:∀ e:P2,e.x = e.y→g e = 0):∀ ts:List T3,((alluses ts).map g).sum = (ts.map fun t=>g ⟨t.a,t.b⟩ + g ⟨t.b,t.c⟩ + g ⟨t.c,t.a⟩).sum
 | []=>rfl
 | t :: ts=>by
   have h0:alluses (t :: ts) = edgesOf t ++ alluses ts:=rfl
   have h1:((edgesOf t).map g).sum = g ⟨t.a,t.b⟩ + g ⟨t.b,t.c⟩ + g ⟨t.c,t.a⟩:=by
    have h2:edgesOf t = (edges3 t).filter fun e=>decide (e.x ≠ e.y):=rfl
    have h3:∀ l:List P2,((l.filter fun e=>decide (e.x ≠ e.y)).map g).sum = (l.map g).sum:=by
     intro l
     induction l with
     | nil=>rfl
     | cons a l ih =>
       rw [List.filter_cons]
       by_cases h:a.x = a.y
       ·simp only [h,ne_eq,not_true,decide_false,Bool.false_eq_true,if_false,ih,List.map_cons,List.sum_cons,hg a h];omega
       ·simp only [h,ne_eq,not_false_eq_true,decide_true,if_true,List.map_cons,List.sum_cons,ih]
    rw [h2,h3]
    simp only [edges3,List.map_cons,List.map_nil,List.sum_cons,List.sum_nil];omega
   rw [h0,List.map_append,List.sum_append,h1,sum_alluses g hg ts,List.map_cons,List.sum_cons]
theorem det_add (a b c d:V3):det3 (a.add d) (b.add d) (c.add d) = det3 a b c + (dot3 d (crs a b) + dot3 d (crs b c) + dot3 d (crs c a)):=by
 unfold det3 dot3 crs V3.add
 grind
theorem vol_move {m:Mesh} (hc:m.closed = true) {d:V3} (hd:vsOk (m.verts.map (·.add d)) = true):(m.mapV (·.add d)).vol6 = m.vol6:=by
 have hz:m.check = 0:=by
  simp only [Mesh.closed,Bool.and_eq_true,decide_eq_true_eq] at hc;exact hc.1
 obtain⟨z1,z2,z3,z4⟩:=Mesh.check_zero.1 hz
 rw [vol6_ok hz,vol6_ok (mapV_check hz hd)]
 show volL (m.verts.map (·.add d)) m.tris = _
 have h1:=closed_sum hc (g:=fun e=>dot3 d (crs (vAt m.verts e.x) (vAt m.verts e.y))) (fun e=>by
  unfold dot3 crs P2.rev;grind)
 rw [sum_alluses _ (fun e he=>by rw [he];unfold dot3 crs;grind)] at h1
 have h2:∀ l:List T3,(∀ t ∈ l,t.ok m.verts.length = true)→volL (m.verts.map (·.add d)) l = volL m.verts l +
   (l.map fun t=>dot3 d (crs (vAt m.verts t.a) (vAt m.verts t.b)) + dot3 d (crs (vAt m.verts t.b) (vAt m.verts t.c)) + dot3 d (crs (vAt m.verts t.c) (vAt m.verts t.a))).sum:=by
  intro l hl
  induction l with
  | nil=>rfl
  | cons t l ih =>
    rw [volL_cons,volL_cons,ih (fun x hx=>hl x (by simp [hx])),List.map_cons,List.sum_cons,volT_map (hl t (by simp)),det_add]
    unfold volT
    omega
 rw [h2 _ (List.all_eq_true.1 z4),h1]
 omega
end Go.Abs
set_option linter.unusedVariables false
set_option linter.unusedSimpArgs false
namespace Go.Abs
noncomputable def Mesh.inv (m:Mesh):Bool:=m.shells.any fun sh=>decide (volL m.verts (partOf m.tris sh) < 0)
noncomputable def chkR (m:Mesh):Int :=
 if m.check ≠ 0 then m.check else if m.closed = false then 12 else if cohB m.tris = false then 13 else if m.tris.any m.deg = true then 1 else if m.inv = true then 1 else 0
structure Rep where
 me:Int
 de:Int
 du:Int
 fl:Int
 ho:Int
 iv:Int
 sh:Int
def Rep.zero:Rep:=⟨0,0,0,0,0,0,0⟩
noncomputable def repR (m:Mesh):Mesh × Rep × Int :=
 if (weldR m).2.2 ≠ 0 then (noMesh,Rep.zero,(weldR m).2.2) else
 let a:=weldR m
 if (cleanR a.1).2.2.2 ≠ 0 then (noMesh,Rep.zero,(cleanR a.1).2.2.2) else
 let b:=cleanR a.1
 if (weldR b.1).2.2 ≠ 0 then (noMesh,Rep.zero,(weldR b.1).2.2) else
 let c:=weldR b.1
 if (oriR c.1).2.2 ≠ 0 then (noMesh,Rep.zero,(oriR c.1).2.2) else
 let d:=oriR c.1
 if (fillR d.1).2.2 ≠ 0 then (noMesh,Rep.zero,(fillR d.1).2.2) else
 let g:=fillR d.1
 if (outR g.1).2.2 ≠ 0 then (noMesh,Rep.zero,(outR g.1).2.2) else
 let o:=outR g.1
 if chkR o.1 ≠ 0 then (noMesh,Rep.zero,chkR o.1) else
 (o.1,⟨a.2.1 + c.2.1,b.2.1,b.2.2.1,d.2.1,g.2.1,o.2.1,(o.1.shells.length:Int)⟩,0)
structure Snd (m:Mesh):Prop where
 z:m.check = 0
 clo:m.closed = true
 coh:Coh m.tris
 deg:∀ t ∈ m.tris,m.deg t = false
 vol:∀ sh ∈ m.shells,0 ≤ volL m.verts (partOf m.tris sh)
theorem snd_iff {m:Mesh}:chkR m = 0 ↔ Snd m:=by
 unfold chkR
 constructor
 ·intro h
  by_cases h1:m.check = 0
  case neg=>rw [if_pos h1] at h;exact absurd h h1
  rw [if_neg (by simpa using h1)] at h
  by_cases h2:m.closed = false
  case pos=>rw [if_pos h2] at h;simp at h
  rw [if_neg h2] at h
  by_cases h3:cohB m.tris = false
  case pos=>rw [if_pos h3] at h;simp at h
  rw [if_neg h3] at h
  by_cases h4:m.tris.any m.deg = true
  case pos=>rw [if_pos h4] at h;simp at h
  rw [if_neg h4] at h
  by_cases h5:m.inv = true
  case pos=>rw [if_pos h5] at h;simp at h
  refine⟨h1,by simpa using h2,cohB_iff.1 (by simpa using h3),?_,?_⟩
  ·intro t ht
   cases hd:m.deg t with
   | false=>rfl
   | true=>exact absurd (List.any_eq_true.2 ⟨t,ht,hd⟩) h4
  ·intro sh hs
   by_cases hn:volL m.verts (partOf m.tris sh) < 0
   ·exact absurd (List.any_eq_true.2 ⟨sh,hs,by simpa using hn⟩) h5
   ·omega
 ·intro h
  have h4:m.tris.any m.deg = false:=by
   rw [List.any_eq_false];intro t ht;rw [h.deg t ht];simp
  have h5:m.inv = false:=by
   unfold Mesh.inv
   rw [List.any_eq_false];intro sh hs;have:=h.vol sh hs;simp;omega
  rw [if_neg (by simpa using h.z),if_neg (by rw [h.clo];simp),if_neg (by rw [cohB_iff.2 h.coh];simp),if_neg (by rw [h4];simp),if_neg (by rw [h5];simp)]
theorem Snd.out {m:Mesh} (h:Snd m):OutOk m:=⟨h.z,h.clo,cohB_iff.2 h.coh,h.vol⟩
theorem Snd.border {m:Mesh} (h:Snd m):m.border = []:=by
 have:=h.clo
 unfold Mesh.closed at this
 simp only [Bool.and_eq_true,decide_eq_true_eq] at this
 exact this.2
theorem Snd.len {m:Mesh} (h:Snd m):m.tris.length ≤ 4096:=(Mesh.check_zero.1 h.z).2.1
theorem T3.ext' {a b:T3} (h1:a.a = b.a) (h2:a.b = b.b) (h3:a.c = b.c):a = b:=by cases a;cases b;simp_all
theorem ok_valid {m:Mesh} (hz:m.check = 0) {i:Int} (h0:0 ≤ i) (h1:i < m.verts.length):(m.v i).valid = true :=
 List.all_eq_true.1 (Mesh.check_zero.1 hz).2.2.1 _ (Mesh.v_mem h0 h1)
theorem Snd.orient {m:Mesh} (h:Snd m):oriR m = (m,0,0):=by
 obtain⟨L,hL⟩:=lab_ex m.tris
 rw [oriR_ok h.z (orientL_some hL (good_self h.coh)),difN_self];rfl
theorem Snd.fill {m:Mesh} (h:Snd m):fillR m = (m,0,0):=by
 have hl:=loops_closed h.z h.border
 have hm:m.fillM = m:=by
  unfold Mesh.fillM
  rw [hl];simp
 unfold fillR
 rw [hm,hl]
 rw [if_pos rfl,if_pos h.len];rfl
theorem Snd.outw {m:Mesh} (h:Snd m):outR m = (m,0,0):=outR_again h.out
structure Wld (m:Mesh):Prop where
 asc:m.verts.Pairwise V3.lt
 used:∀ v ∈ m.verts,∃ t ∈ m.tris,v ∈ m.cor t
theorem Wld.weld {m:Mesh} (h:Wld m) (hz:m.check = 0):weldR m = (m,0,0):=by
 have hv:m.wverts = m.verts:=by
  refine ascG_ext V3.ltO (wverts_asc _) h.asc fun v=>?_
  rw [mem_wverts]
  constructor
  ·rintro⟨t,ht,hv⟩
   obtain⟨a0,a1,b0,b1,c0,c1⟩:=tok hz ht
   simp only [Mesh.cor,List.mem_cons,List.not_mem_nil,or_false] at hv
   rcases hv with rfl | rfl | rfl
   ·exact Mesh.v_mem a0 a1
   ·exact Mesh.v_mem b0 b1
   ·exact Mesh.v_mem c0 c1
  ·exact h.used v
 have hnd:m.verts.Nodup:=by
  exact ascG_nodup V3.ltO h.asc
 have hi:∀ i:Int,0 ≤ i→i < m.verts.length→idxV m.verts (m.v i) = i:=by
  intro i h0 h1
  have:=idxV_of_get hnd (i:=i.toNat) (v:=m.v i) (by
   have hlt:i.toNat < m.verts.length:=by omega
   rw [List.getElem?_eq_getElem hlt,m.v_get h1 hlt])
  omega
 have ht:m.tris.map (wtri m m.verts) = m.tris:=by
  conv=>rhs;rw [← List.map_id m.tris]
  refine List.map_congr_left fun t ht=>?_
  obtain⟨a0,a1,b0,b1,c0,c1⟩:=tok hz ht
  simp only [wtri,hi _ a0 a1,hi _ b0 b1,hi _ c0 c1];rfl
 unfold weldR Mesh.weldM
 rw [if_pos hz,hv,ht]
 simp
theorem weldR_cases (m:Mesh):((weldR m).2.2 ≠ 0∧m.check ≠ 0) ∨ (m.check = 0∧weldR m = (m.weldM,(m.verts.length:Int) - m.wverts.length,0)):=by
 unfold weldR
 by_cases h:m.check = 0
 ·rw [if_pos h];exact .inr ⟨h,rfl⟩
 ·rw [if_neg h];exact .inl ⟨h,h⟩
theorem weldM_wld {m:Mesh} (hz:m.check = 0):Wld m.weldM where
 asc:=wverts_asc m
 used v hv:=by
  have hv:v ∈ m.weldM.wverts:=by
   have h:=congrArg Mesh.verts (weld_weld hz)
   show v ∈ m.weldM.weldM.verts
   rw [h];exact hv
  exact mem_wverts.1 hv
theorem cor_rev (m:Mesh) (t:T3) (v:V3):v ∈ m.cor t.rev ↔ v ∈ m.cor t:=by
 simp only [Mesh.cor,T3.rev,List.mem_cons,List.not_mem_nil,or_false]
 constructor <;> rintro (h | h | h) <;> simp [h]
theorem Wld.fl {m:Mesh} (h:Wld m) {us:List T3} (hf:Fl m.tris us):Wld ⟨m.verts,us⟩ where
 asc:=h.asc
 used v hv:=by
  obtain⟨t,ht,hc⟩:=h.used v hv
  obtain⟨i,hi⟩:=List.getElem?_of_mem ht
  have hl:=(List.getElem?_eq_some_iff.1 hi).1
  rw [tAt_get hl] at hi
  obtain rfl:=Option.some.inj hi
  refine⟨tAt us i,List.mem_of_getElem? (tAt_get (by rw [hf.len];exact hl)),?_⟩
  show v ∈ m.cor _
  rcases hf.tat hl with h1 | h1
  ·rw [h1];exact hc
  ·rw [h1,cor_rev];exact hc
theorem Wld.more {m:Mesh} (h:Wld m) (k:List T3):Wld ⟨m.verts,m.tris ++ k⟩ where
 asc:=h.asc
 used v hv:=by
  obtain⟨t,ht,hc⟩:=h.used v hv
  exact⟨t,List.mem_append_left _ ht,hc⟩
theorem oriR_cs (m:Mesh):((oriR m).2.2 ≠ 0) ∨ (m.check = 0∧∃ us,orientL m.tris = some us∧oriR m = (⟨m.verts,us⟩,(difN m.tris us:Int),0)):=by
 by_cases h:m.check = 0
 case neg =>
  left
  unfold oriR
  rw [if_pos h];exact h
 cases ho:orientL m.tris with
 | none=>left;rw [oriR_err h ho];simp
 | some us=>exact .inr ⟨h,us,rfl,oriR_ok h ho⟩
theorem fillR_cases (m:Mesh):((fillR m).2.2 ≠ 0) ∨ (m.loops.2 = 0∧m.fillM.tris.length ≤ 4096∧fillR m = (m.fillM,(m.loops.1.length:Int),0)):=by
 unfold fillR
 by_cases h:m.loops.2 = 0
 ·rw [if_pos h]
  by_cases h2:m.fillM.tris.length ≤ 4096
  ·rw [if_pos h2];exact .inr ⟨h,h2,rfl⟩
  ·rw [if_neg h2];left;simp
 ·rw [if_neg h];exact .inl h
theorem repR_cases (m:Mesh):((repR m).2.2 ≠ 0∧repR m = (noMesh,Rep.zero,(repR m).2.2)) ∨
  ((repR m).2.2 = 0∧Wld (repR m).1∧Snd (repR m).1∧(repR m).2.1.sh = ((repR m).1.shells.length:Int)):=by
 unfold repR
 simp only []
 rcases weldR_cases m with⟨h,hz⟩ | ⟨hz,h1⟩
 ·rw [if_pos h];exact .inl ⟨h,rfl⟩
 rw [h1]
 simp only [ne_eq,not_true_eq_false,if_false]
 by_cases h2:(cleanR m.weldM).2.2.2 = 0
 case neg=>rw [if_pos h2];exact .inl ⟨h2,rfl⟩
 rw [if_neg (by simpa using h2)]
 rcases weldR_cases (cleanR m.weldM).1 with⟨h,hz⟩ | ⟨hz3,h3⟩
 ·rw [if_pos h];exact .inl ⟨h,rfl⟩
 rw [h3]
 simp only [not_true_eq_false,if_false]
 have hw:=weldM_wld hz3
 rcases oriR_cs (cleanR m.weldM).1.weldM with h | ⟨hz4,us,ho,h4⟩
 ·rw [if_pos h];exact .inl ⟨h,rfl⟩
 rw [h4]
 simp only [not_true_eq_false,if_false]
 have hw4:=hw.fl (by obtain⟨L,hL⟩:=lab_ex (cleanR m.weldM).1.weldM.tris;exact (orientL_good hL ho).fl)
 generalize (⟨(cleanR m.weldM).1.weldM.verts,us⟩:Mesh) = d at *
 rcases fillR_cases d with h | ⟨hl,hlen,h5⟩
 ·rw [if_pos h];exact .inl ⟨h,rfl⟩
 rw [h5]
 simp only [not_true_eq_false,if_false]
 have hw5:Wld d.fillM:=hw4.more _
 generalize d.fillM = g at *
 rcases outR_cases g with⟨h,_⟩ | ⟨h6,hok⟩
 ·rw [if_pos h];exact .inl ⟨h,rfl⟩
 rw [h6]
 simp only [not_true_eq_false,if_false]
 have hw6:Wld g.outw:=hw5.fl (flp_Fl _ _)
 by_cases h7:chkR g.outw = 0
 case neg=>rw [if_pos h7];exact .inl ⟨h7,rfl⟩
 rw [if_neg (by simpa using h7)]
 exact .inr ⟨rfl,hw6,snd_iff.1 h7,rfl⟩
theorem mapV_border {m:Mesh} (hz:m.check = 0) {g:V3→V3} (hg:vsOk (m.verts.map g) = true):(m.mapV g).border = m.border:=by
 unfold Mesh.border
 rw [if_pos (mapV_check hz hg),if_pos hz];rfl
theorem mapV_closed {m:Mesh} (hz:m.check = 0) {g:V3→V3} (hg:vsOk (m.verts.map g) = true):(m.mapV g).closed = m.closed:=by
 unfold Mesh.closed
 rw [mapV_border hz hg,mapV_check hz hg,hz]
theorem mapV_shells {m:Mesh} (hz:m.check = 0) {g:V3→V3} (hg:vsOk (m.verts.map g) = true):(m.mapV g).shells = m.shells:=by
 unfold Mesh.shells
 rw [if_pos (mapV_check hz hg),if_pos hz];rfl
theorem collin_add {a b c d:V3} (ha:a.valid = true) (hb:b.valid = true) (hc:c.valid = true) (ha':(a.add d).valid = true) (hb':(b.add d).valid = true) (hc':(c.add d).valid = true) :
  collin (a.add d) (b.add d) (c.add d) = collin a b c:=by
 unfold collin
 rw [ha,hb,hc,ha',hb',hc']
 have h:∀ u w:V3,(u.add d).sub (w.add d) = u.sub w:=by
  intro u w;unfold V3.sub V3.add;simp only [V3.mk.injEq];omega
 rw [h,h]
theorem deg_move {m:Mesh} (hz:m.check = 0) {d:V3} (hd:vsOk (m.verts.map (·.add d)) = true) {t:T3} (ht:t ∈ m.tris):(m.mapV (·.add d)).deg t = m.deg t:=by
 obtain⟨a0,a1,b0,b1,c0,c1⟩:=tok hz ht
 have hv:∀ i:Int,0 ≤ i→i < m.verts.length→(m.mapV (·.add d)).v i = (m.v i).add d:=fun i h0 h1=>vAt_map (vs:=m.verts) (g:=(·.add d)) h0 h1
 have hk:∀ i:Int,0 ≤ i→i < m.verts.length→((m.v i).add d).valid = true:=fun i h0 h1 =>
  List.all_eq_true.1 hd _ (List.mem_map.2 ⟨_,Mesh.v_mem h0 h1,rfl⟩)
 unfold Mesh.deg
 rw [hv _ a0 a1,hv _ b0 b1,hv _ c0 c1]
 exact collin_add (ok_valid hz a0 a1) (ok_valid hz b0 b1) (ok_valid hz c0 c1) (hk _ a0 a1) (hk _ b0 b1) (hk _ c0 c1)
theorem shell_nodup {m:Mesh} (hz:m.check = 0) {sh:List Int} (hs:sh ∈ m.shells):sh.Nodup:=by
 obtain⟨L,hL⟩:=lab_ex m.tris
 have hR:m.shells = shsK L m.tris.length:=by unfold Mesh.shells;rw [if_pos hz,labOf_eq hL,hL.len]
 rw [hR] at hs
 obtain⟨i,_,_,rfl⟩:=shsK_mem.1 hs
 exact shK_nodup2 _ _ _
theorem shell_adj {m:Mesh} (hz:m.check = 0) {sh:List Int} (hs:sh ∈ m.shells) {i j:Nat} (hi:(i:Int) ∈ sh) (ha:adjI m.tris i j):(j:Int) ∈ sh:=by
 obtain⟨L,hL⟩:=lab_ex m.tris
 have hR:m.shells = shsK L m.tris.length:=by unfold Mesh.shells;rw [if_pos hz,labOf_eq hL,hL.len]
 rw [hR] at hs
 obtain⟨q,_,_,rfl⟩:=shsK_mem.1 hs
 obtain⟨k,hk,h1,h2⟩:=mem_shK2.1 hi
 obtain rfl:i = k:=by omega
 exact mem_shK2.2 ⟨j,rfl,by rw [hL.len];exact ha.lt.2,by rw [← hL.adj i j ha];exact h2⟩
theorem part_len (ts:List T3) (sh:List Int):(partOf ts sh).length = sh.length:=by simp [partOf]
theorem part_at {ts:List T3} {sh:List Int} {i:Nat} (h:i < sh.length):tAt (partOf ts sh) i = tAt ts (sh[i]).toNat:=by
 unfold partOf tAt
 rw [List.getElem?_map,List.getElem?_eq_getElem h];rfl
theorem shell_closed {m:Mesh} (hz:m.check = 0) (hc:Coh m.tris) (hclo:Clo m.tris) {sh:List Int} (hs:sh ∈ m.shells):(Mesh.mk m.verts (partOf m.tris sh)).closed = true:=by
 have ho:=shells_ok hz
 have hnd:=shell_nodup hz hs
 have hm:=ho.mem sh hs
 refine clo_closed (part_check hz (ho.len sh hs) hm) ?_ ?_
 ·intro i j e hi hj h1 h2
  have hi:i < sh.length:=by rw [part_len] at hi;exact hi
  have hj:j < sh.length:=by rw [part_len] at hj;exact hj
  rw [part_at hi] at h1
  rw [part_at hj] at h2
  have m1:=hm _ (List.getElem_mem hi)
  have m2:=hm _ (List.getElem_mem hj)
  have h:=hc _ _ e (by omega) (by omega) h1 h2
  exact nodup_idx hnd (List.getElem?_eq_getElem hi) (by rw [List.getElem?_eq_getElem hj];congr 1;omega)
 ·intro e he
  obtain⟨i,hi,h1⟩:=mem_all.1 he
  have hi:i < sh.length:=by rw [part_len] at hi;exact hi
  rw [part_at hi] at h1
  have m1:=hm _ (List.getElem_mem hi)
  have hv:(((sh[i]).toNat:Nat):Int) = sh[i]:=by omega
  obtain⟨j,hj,h2⟩:=mem_all.1 (hclo e (mem_all.2 ⟨_,by omega,h1⟩))
  have ha:=adjI_of' (by omega) hj h1 h2 (rev_und e).symm
  have hjs:=shell_adj hz hs (by rw [hv];exact List.getElem_mem hi) ha
  obtain⟨k,hk,hkj⟩:=List.mem_iff_getElem.1 hjs
  refine mem_all.2 ⟨k,by show k < (partOf m.tris sh).length;rw [part_len];exact hk,?_⟩
  show e.rev ∈ edgesOf (tAt (partOf m.tris sh) k)
  rw [part_at hk,hkj]
  exact h2
theorem inv_move {m:Mesh} (hz:m.check = 0) (hc:Coh m.tris) (hclo:Clo m.tris) {d:V3} (hd:vsOk (m.verts.map (·.add d)) = true):(m.mapV (·.add d)).inv = m.inv:=by
 unfold Mesh.inv
 rw [mapV_shells hz hd]
 have h:∀ sh ∈ m.shells,volL (m.mapV (·.add d)).verts (partOf (m.mapV (·.add d)).tris sh) = volL m.verts (partOf m.tris sh):=by
  intro sh hs
  have hcl:=shell_closed hz hc hclo hs
  have hk:=vol_move hcl (d:=d) hd
  have hz2:=(closed_clo hcl).1
  rw [vol6_ok hz2,vol6_ok (mapV_check hz2 hd)] at hk
  exact hk
 rw [Bool.eq_iff_iff,List.any_eq_true,List.any_eq_true]
 constructor
 ·rintro⟨sh,hs,hh⟩
  rw [h sh hs] at hh
  exact⟨sh,hs,hh⟩
 ·rintro⟨sh,hs,hh⟩
  refine⟨sh,hs,?_⟩
  rw [h sh hs];exact hh
theorem chk_move {m:Mesh} (hz:m.check = 0) {d:V3} (hd:vsOk (m.verts.map (·.add d)) = true):chkR (m.mapV (·.add d)) = chkR m:=by
 unfold chkR
 rw [mapV_check hz hd,hz,mapV_closed hz hd]
 simp only [ne_eq,not_true_eq_false,if_false]
 by_cases hcl:m.closed = false
 ·rw [if_pos hcl,if_pos hcl]
 rw [if_neg hcl,if_neg hcl]
 by_cases hco:cohB m.tris = false
 ·rw [if_pos hco,if_pos (show cohB (m.mapV (·.add d)).tris = false from hco)]
 rw [if_neg hco,if_neg (show ¬ cohB (m.mapV (·.add d)).tris = false from hco)]
 have hdg:(m.mapV (·.add d)).tris.any (m.mapV (·.add d)).deg = m.tris.any m.deg:=by
  rw [Bool.eq_iff_iff,List.any_eq_true,List.any_eq_true]
  constructor
  ·rintro⟨t,ht,h⟩
   exact⟨t,ht,by rw [← deg_move hz hd ht];exact h⟩
  ·rintro⟨t,ht,h⟩
   exact⟨t,ht,by rw [deg_move hz hd ht];exact h⟩
 rw [hdg,inv_move hz (cohB_iff.1 (by simpa using hco)) (closed_clo (by simpa using hcl)).2 hd]
end Go.Abs
