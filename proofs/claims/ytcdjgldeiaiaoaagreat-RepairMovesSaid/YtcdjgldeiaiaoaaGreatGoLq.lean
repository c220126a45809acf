/- Part of the library on which the proof stands: an abstract machine, its values and its soundness against the model; or what functions of the program do to such values. -/
import Derived.Test.YtcdjgldeiaiaoaaGreatGoLpA
import Derived.Test.YtcdjgldeiaiaoaaGreatGoOriA
import Derived.Test.YtcdjgldeiaiaoaaGreatGoRevC
set_option linter.unusedVariables false
set_option linter.unusedSimpArgs false
namespace Go.Abs
theorem edgesOf_mem {t:T3} {e:P2} (h:e ∈ edgesOf t):(e.x = t.a ∨ e.x = t.b ∨ e.x = t.c)∧(e.y = t.a ∨ e.y = t.b ∨ e.y = t.c):=by
 unfold edgesOf edgesK at h
 have h1:e ∈ edges3 t:=List.mem_of_mem_take (List.mem_filter.1 h).1
 simp only [edges3,List.mem_cons,List.not_mem_nil,or_false] at h1
 rcases h1 with rfl | rfl | rfl <;> simp
theorem alluses_range {m:Mesh} (hz:m.check = 0) {e:P2} (h:e ∈ alluses m.tris):0 ≤ e.x∧e.x < m.verts.length∧0 ≤ e.y∧e.y < m.verts.length:=by
 obtain⟨t,ht,he⟩:=List.mem_flatMap.1 h
 obtain⟨h1,h2,h3,h4,h5,h6⟩:=T3.ok_iff.1 (List.all_eq_true.1 (Mesh.check_zero.1 hz).2.2.2 t ht)
 have:=edgesOf_mem he
 omega
theorem border_range {m:Mesh} {e:P2} (h:e ∈ m.border):0 ≤ e.x∧e.x < m.verts.length∧0 ≤ e.y∧e.y < m.verts.length:=by
 obtain⟨h1,h2,_⟩:=mem_border.1 h
 exact alluses_range h1 h2
theorem border_len (m:Mesh):m.border.length ≤ 12288:=by
 by_cases hz:m.check = 0
 ·have hn:m.border.Nodup:=(border_asc m).imp fun h1 h2=>by subst h2;exact P2.lt_irrefl _ h1
  have h1:=nodupP_len hn (fun a ha=>(mem_border.1 ha).2.1)
  have hE:=alluses_len m.tris m.tris.length
  rw [List.take_length] at hE
  have:=(Mesh.check_zero.1 hz).2.1
  omega
 ·simp [Mesh.border,hz]
theorem nxt_mem {m:Mesh} (hz:m.check = 0) (h:m.simple m.border = true) {v:Int} (hv:v ∈ m.border.map P2.x):nxt m.border v ∈ m.border.map P2.x:=by
 rw [border_xy hz h] at hv
 obtain⟨e,he,rfl⟩:=List.mem_map.1 hv
 rw [nxt_of (border_ynd hz h) he]
 exact List.mem_map.2 ⟨e,he,rfl⟩
theorem lsV_no (e:Int):Le (.t [.nil,.i .i64 e]) (.t [lsV [],.i .i64 e]):=.inr ⟨_,_,rfl,rfl,.inl (Le0.nil 1),Le1.refl _,trivial⟩
theorem bl_congr {n:Nat} {g g':Nat→Bool} (h:∀ j,j < n→g j = g' j):bl n g = bl n g':=by
 unfold bl
 exact List.map_congr_left fun j hj=>by rw [h j (List.mem_range.1 hj)]
def mk (n:Nat) (done:List Int):List (List V):=bl n fun j=>decide ((j:Int) ∈ done)
theorem mk_nil (n:Nat):List.replicate n [V.b false] = mk n []:=by rw [bl_rep];exact bl_congr fun j _=>by simp
theorem mk_set {n:Nat} {d:List Int} {v:Int} (h0:0 ≤ v):(mk n d).set v.toNat [.b true] = mk n (d ++ [v]):=by
 unfold mk
 rw [bl_set]
 refine bl_congr fun j _=>?_
 by_cases hj:j = v.toNat
 ·have:(j:Int) = v:=by omega
  simp [hj,show ((v.toNat:Nat):Int) = v by omega]
 ·have:(j:Int) ≠ v:=by omega
  simp [hj,this]
theorem mk_get {n:Nat} {d:List Int} {v:Int} (h0:0 ≤ v) (h1:v < n):(mk n d)[v.toNat]? = some [.b (decide (v ∈ d))]:=by
 unfold mk
 rw [bl_get (by omega),show ((v.toNat:Nat):Int) = v by omega]
theorem mk_cl (n:Nat) (d:List Int) (k:Nat):∀ el ∈ mk n d,∀ x ∈ el,x.cl k = true:=bl_cl _ _ _
theorem Flt.app {a b:List O} (h:Flt a) (k:Flt b):Flt (a ++ b):=fun o ho n=>by
 rcases List.mem_append.1 ho with h1 | h1
 ·exact h o h1 n
 ·exact k o h1 n
theorem Flt.WeakH {hx l:List O} (h:Flt hx) (n:Nat):WeakH n (hx ++ l) hx:=WeakH_self fun o ho=>h o ho n
theorem Flt.WeakH' {hx:List O} (h:Flt hx) (n:Nat):Go.Abs.WeakH n hx hx:=by
 have:=h.WeakH (l:=[]) n
 rwa [List.append_nil] at this
end Go.Abs
set_option linter.unusedVariables false
set_option linter.unusedSimpArgs false
namespace Go.Abs
section
variable {K β:Type} [DecidableEq K]
def fndG (e:K):List (K × β)→Option (Nat × β)
 | []=>none
 | (k,n) :: r=>if e = k then some (0,n) else (fndG e r).map fun p=>(p.1 + 1,p.2)
structure KeyOk (ls:List Nat) (en:K→V):Prop where
 shape:∀ a,kshape ls (en a) = true
 len:∀ a,(en a).cells.length = ls.length
 eq:∀ a b,veqL ls (en a).cells (en b).cells = some (decide (a = b))
def asG (en:K→V) (ev:β→V) (p:K × β):V × V:=(en p.1,ev p.2)
theorem findE_G {ls:List Nat} {en:K→V} (O:KeyOk ls en) (ev:β→V) (e:K):∀ L:List (K × β),findE ls (en e) (L.map (asG en ev)) = some ((fndG e L).map fun p=>(p.1,ev p.2))
 | []=>by simp [findE,O.shape,O.len,fndG]
 | (k,n) :: r=>by
   simp only [List.map_cons,asG,findE,fndG,O.shape,O.eq,Bool.and_self,if_true]
   by_cases h:e = k
   ·simp [h]
   ·simp only [h,decide_false,if_false]
    have:=findE_G O ev e r
    rw [this]
    cases fndG e r <;> rfl
theorem fndG_none {e:K}:∀ {L:List (K × β)},fndG e L = none ↔ e ∉ L.map Prod.fst
 | []=>by simp [fndG]
 | (k,n) :: r=>by
   simp only [fndG]
   by_cases h:e = k
   ·simp [h]
   ·rw [if_neg h,Option.map_eq_none_iff,fndG_none (L:=r)]
    simp [h]
theorem fndG_some {e:K}:∀ {L:List (K × β)} {i:Nat} {n:β},fndG e L = some (i,n)→L[i]? = some (e,n)
 | [],i,n,h=>by simp [fndG] at h
 | (k,m) :: r,i,n,h=>by
   simp only [fndG] at h
   by_cases hk:e = k
   ·simp [hk] at h;obtain⟨rfl,rfl⟩:=h;simp [hk]
   ·simp only [hk,if_false,Option.map_eq_some_iff,Prod.mk.injEq] at h
    obtain⟨⟨j,n1⟩,hj,rfl,rfl⟩:=h
    simpa using fndG_some hj
theorem fndG_of_get:∀ {L:List (K × β)} {i:Nat} {e:K} {n:β},(L.map Prod.fst).Nodup→L[i]? = some (e,n)→fndG e L = some (i,n)
 | [],i,e,n,_,h=>by simp at h
 | (k,m) :: r,0,e,n,_,h=>by simp at h;obtain⟨rfl,rfl⟩:=h;simp [fndG]
 | (k,m) :: r,i + 1,e,n,hn,h=>by
   simp only [List.map_cons,List.nodup_cons] at hn
   simp only [List.getElem?_cons_succ] at h
   have hk:¬ e = k:=by
    rintro rfl
    exact hn.1 (List.mem_map.2 ⟨(e,n),List.mem_of_getElem? h,rfl⟩)
   simp [fndG,hk,fndG_of_get hn.2 h]
theorem fndG_app {e e':K} {n:β}:∀ {L:List (K × β)},fndG e L = none→fndG e' (L ++ [(e,n)]) = if e' = e then some (L.length,n) else fndG e' L
 | [],_=>by simp [fndG]
 | (k,m) :: r,h=>by
   simp only [fndG] at h
   by_cases hk:e = k
   ·simp [hk] at h
   ·simp only [hk,if_false,Option.map_eq_none_iff] at h
    by_cases he:e' = e
    ·subst he;simp [fndG,hk,fndG_app h]
    ·simp only [List.cons_append,fndG,fndG_app h,he,if_false]
theorem fndG_set {e e':K} {n':β}:∀ {L:List (K × β)} {i:Nat} {n:β},fndG e L = some (i,n)→fndG e' (L.set i (e,n')) = if e' = e then some (i,n') else fndG e' L
 | [],i,n,h=>by simp [fndG] at h
 | (k,m) :: r,i,n,h=>by
   simp only [fndG] at h
   by_cases hk:e = k
   ·simp [hk] at h;obtain⟨rfl,rfl⟩:=h
    subst hk
    by_cases he:e' = e <;> simp [fndG,he]
   ·simp only [hk,if_false,Option.map_eq_some_iff,Prod.mk.injEq] at h
    obtain⟨⟨j,n1⟩,hj,rfl,rfl⟩:=h
    have:=fndG_set (e':=e') (n':=n') hj
    by_cases he:e' = e
    ·subst he;simp [fndG,hk,this]
    ·simp only [List.set_cons_succ,fndG,this,he,if_false]
def putG (e:K) (n:β) (L:List (K × β)):List (K × β):=match fndG e L with | some (i,_)=>L.set i (e,n) | none=>L ++ [(e,n)]
theorem fndG_put (e e':K) (n:β) (L:List (K × β)):(fndG e' (putG e n L)).map Prod.snd = if e' = e then some n else (fndG e' L).map Prod.snd:=by
 unfold putG
 cases h:fndG e L with
 | none=>simp only [fndG_app h];split <;> simp
 | some p=>obtain⟨i,m⟩:=p;simp only [fndG_set h];split <;> simp
end
theorem key_P2:KeyOk [1,1] P2.enc:=⟨fun _=>rfl,fun _=>rfl,veq2⟩
theorem key_V3:KeyOk [1,1,1] V3.enc:=⟨fun _=>rfl,fun _=>rfl,fun a b=>by
 cases a;cases b
 simp [veqL,V3.enc,V3.cs,V.cells,sceq,V3.mk.injEq]
 rw [Bool.eq_iff_iff];simp⟩
theorem key_T3:KeyOk [1,1,1] T3.enc:=⟨fun _=>rfl,fun _=>rfl,fun a b=>by
 cases a;cases b
 simp [veqL,T3.enc,T3.cs,V.cells,sceq,T3.mk.injEq]
 rw [Bool.eq_iff_iff];simp⟩
theorem key_i64:KeyOk [1] (V.i .i64):=⟨fun _=>rfl,fun _=>rfl,fun a b=>by
 simp [veqL,V.cells,sceq]
 rw [Bool.eq_iff_iff];simp⟩
end Go.Abs
set_option linter.unusedVariables false
set_option linter.unusedSimpArgs false
namespace Go.Abs
def kt {K:Type} (en:K→V) (v:K):V × V:=(en v,.b true)
theorem findE_set {K:Type} [DecidableEq K] {ls:List Nat} {en:K→V} (O:KeyOk ls en) (e:K) (U:List K):findE ls (en e) (U.map (kt en)) = some (if e ∈ U then some (U.idxOf e,.b true) else none):=by
 induction U with
 | nil=>simp [findE,O.shape,O.len]
 | cons x r ih =>
   simp only [List.map_cons,kt,findE,O.shape,O.eq,Bool.and_self,if_true]
   by_cases h:e = x
   ·simp [h]
   ·simp only [h,decide_false]
    have ih':findE ls (en e) (r.map fun v=>(en v,V.b true)) = _:=ih
    have hm:(e ∈ x :: r) = (e ∈ r):=by simp [h]
    have h':¬ x = e:=fun hh=>h hh.symm
    show Option.map _ (findE ls (en e) (r.map (kt en))) = _
    rw [ih]
    have hb:(x == e) = false:=by simp [h']
    by_cases hr:e ∈ r <;> simp [hr,h,List.idxOf_cons,h',hb]
theorem v3_cl (t:V3) (n:Nat):(∀ y ∈ t.cs,y.cl n = true) = True:=by simp [V3.cs,V.cl,V.cl1,V.cl0]
theorem v3enc_cl (v:V3) (n:Nat):v.enc.cl n = true:=by simp [V3.enc,V3.cs,V.cl,V.cl1,V.cl0]
theorem t3c_cl (t:T3) (n:Nat):(∀ y ∈ t.cs,y.cl n = true) = True:=by simp [T3.cs,V.cl,V.cl1,V.cl0]
end Go.Abs
set_option linter.unusedVariables false
set_option linter.unusedSimpArgs false
namespace Go.Abs
def fromK (l:List P2) (k:Nat):List (Int × Int):=(l.take k).foldl (fun M e=>putG e.y e.x M) []
theorem fromK_succ {l:List P2} {k:Nat} {e:P2} (h:l[k]? = some e):fromK l (k + 1) = putG e.y e.x (fromK l k):=by unfold fromK;rw [take_succ_get h,List.foldl_append];rfl
theorem ynd_inj {l:List P2} (hy:(l.map P2.y).Nodup) {a b:P2} (ha:a ∈ l) (hb:b ∈ l) (h:a.y = b.y):a = b:=by
 obtain⟨i,hi,rfl⟩:=List.mem_iff_getElem.1 ha
 obtain⟨j,hj,rfl⟩:=List.mem_iff_getElem.1 hb
 have e1:(l.map P2.y).idxOf l[i].y = i:=by
  have:=hy.idxOf_getElem i (by simpa using hi)
  simpa using this
 have e2:(l.map P2.y).idxOf l[j].y = j:=by
  have:=hy.idxOf_getElem j (by simpa using hj)
  simpa using this
 rw [h] at e1
 have:i = j:=by omega
 subst this;rfl
theorem fromK_get {l:List P2} (hy:(l.map P2.y).Nodup):∀ (k:Nat),k ≤ l.length→∀ e ∈ l.take k,(fndG e.y (fromK l k)).map Prod.snd = some e.x
 | 0,_,e,he=>by simp at he
 | k + 1,hk,e,he=>by
   have hp:l[k]? = some l[k]:=List.getElem?_eq_getElem (by omega)
   rw [take_succ_get hp] at he
   rw [fromK_succ hp,fndG_put]
   by_cases h:e.y = l[k].y
   ·rw [if_pos h]
    have hel:e ∈ l:=by
     rcases List.mem_append.1 he with h1 | h1
     ·exact List.mem_of_mem_take h1
     ·simp at h1;subst h1;exact List.getElem_mem _
    rw [ynd_inj hy hel (List.getElem_mem _) h]
   ·rw [if_neg h]
    rcases List.mem_append.1 he with h1 | h1
    ·exact fromK_get hy k (by omega) e h1
    ·simp at h1;subst h1;exact absurd rfl h
theorem from_nxt {m:Mesh} (hz:m.check = 0) (h:m.simple m.border = true) {v:Int} (hv:v ∈ m.border.map P2.x):∃ i:Nat,fndG v (fromK m.border m.border.length) = some (i,nxt m.border v):=by
 rw [border_xy hz h] at hv
 obtain⟨e,he,rfl⟩:=List.mem_map.1 hv
 have hy:=border_ynd hz h
 have h1:=fromK_get hy m.border.length (Nat.le_refl _) e (by rw [List.take_length];exact he)
 rw [nxt_of hy he]
 cases hf:fndG e.y (fromK m.border m.border.length) with
 | none=>rw [hf] at h1;simp at h1
 | some p =>
   rw [hf] at h1
   simp only [Option.map_some,Option.some.injEq] at h1
   exact⟨p.1,by rw [← h1]⟩
theorem asI_cl2 (L:List (Int × Int)) (n:Nat):∀ (a b:V) (x y:Int),(x,y) ∈ L→asG (V.i .i64) (V.i .i64) (x,y) = (a,b)→a.cl n = true∧b.cl n = true:=by
 rintro a b x y _ h
 simp only [asG,Prod.mk.injEq] at h
 obtain⟨rfl,rfl⟩:=h
 exact⟨rfl,rfl⟩
theorem find_use {m:Mesh} {e:P2} (h:e ∈ m.border):∃ i:Nat,fnd e (tallyM m) = some (i,m.use e):=by
 obtain⟨hz,he,_⟩:=mem_border.1 h
 obtain⟨i,hi⟩:=tallyM_of hz he
 exact⟨i,fnd_of_get (tallyM_nodup m) hi⟩
section
variable {P:Program} (hm:P.follows .mixedOrders = true)
include hm
set_option maxRecDepth 20000 in
set_option maxHeartbeats 8000000 in
theorem topo_Loops_ok {f fc fn fb fr:FuncId} (hf:FnOk P f (topo_Loops.c fc fn fb fr) topo_Loops.r topo_Loops.n) (hc:CheckC P fc) (hn:CountedC P fn) (hb:BoundaryC P fb) (hr:RevC P fr):LoopsC P f:=by
 intro m
 by_cases hz:m.check = 0
 case neg =>
  have he:m.loops = ([],m.check):=by simp [Mesh.loops,hz]
  rw [he]
  refine CallIs.res (r:=.t [.nil,.i .i64 m.check]) ?_ (lsV_no _)
  refine PureC.is (pure_of hm hf (Nat.le_of_ble_eq_true rfl) ?_) rfl
  unfold topo_Loops.c
  simp [go_sem,Mesh.enc,Mesh.cs]
  refine ACall_is (hc m) ?_
  simp [go_sem,hz,topo_Loops.r]
 have hbl:=border_len m
 have hLl:=tallyM_len m
 have hmain:PureC P f [m.enc] (· = if m.simple m.border = true then V.t [lsV (loopsOf m.border),.i .i64 0] else .t [.nil,.i .i64 13]):=by
  refine pure_ofF hm hf (Nat.le_of_ble_eq_true rfl) ?_
  have hrange:∀ e ∈ m.border,0 ≤ e.x∧e.x < m.verts.length:=fun e he=>⟨(border_range he).1,(border_range he).2.1⟩
  have hnm:∀ v,m.simple m.border = true→v ∈ m.border.map P2.x→nxt m.border v ∈ m.border.map P2.x:=fun v hsi=>nxt_mem hz hsi
  have hfx:∀ v,m.simple m.border = true→v ∈ m.border.map P2.x→∃ i:Nat,fndG v (fromK m.border m.border.length) = some (i,nxt m.border v):=fun v hsi=>from_nxt hz hsi
  have hfu:∀ e ∈ m.border,∃ i:Nat,fnd e (tallyM m) = some (i,m.use e):=fun e he=>find_use he
  have hvu:∀ e,val e (tallyM m) = m.use e:=val_tallyM m
  unfold topo_Loops.c
  simp [go_sem,Mesh.enc,Mesh.cs]
  refine ACall_is (hc m) ?_
  simp [go_sem,hz]
  refine ACall_new (hn m) rfl ?_
  simp only [List.map_cons,List.map_nil,sh_asV]
  simp [go_sem]
  refine ACall_is (hb m) ?_
  generalize m.border = l at *
  generalize hT:tallyM m = T at *
  simp [go_sem,psV]
  refine AS_loop (α:=Nat) (fun k=>k ≤ l.length∧∀ i,i < k→okAt m l i = true)
   (fun k=>⟨[(5,.mp 2),(6,psV l),(7,.mp 3),(26,psV l),(27,.i .i64 l.length),(28,.i .i64 k)],[.dead,.dead,.mp (T.map asV),.mp ((fromK l k).map (asG (V.i .i64) (V.i .i64)))]⟩)
   (fun k=>l.length - k) 0 ⟨Nat.zero_le _,by simp⟩ ?_ ?_
  ·simp [go_sem,psV,fromK]
   exact asV_cl _ 4
  ·rintro k ⟨hk,hok⟩
   by_cases hkl:k = l.length
   ·subst hkl
    have hsi:m.simple l = true:=List.all_eq_true.2 fun i hi=>hok i (List.mem_range.1 hi)
    rw [if_pos hsi]
    replace hnm:=fun v=>hnm v hsi
    replace hfx:=fun v=>hfx v hsi
    unfold loopsOf
    simp [go_sem,psV]
    have hxr:∀ v,v ∈ l.map P2.x→nxt l v ∈ l.map P2.x:=hnm
    refine AS_loopG [.t 10 1] (α:=Nat × List O × List (List V)) (fun p=>p.1 ≤ l.length∧Held 6 p.2.1 (loopsK (nxt l) l p.1).2 p.2.2∧Flt p.2.1∧(loopsK (nxt l) l p.1).2.length ≤ p.1)
     (fun p=>⟨[(7,.mp 3),(10,.own 5 ((loopsK (nxt l) l p.1).2.length + 1) 0 (loopsK (nxt l) l p.1).2.length),(11,.mp 4),(66,psV l),(67,.i .i64 l.length),(68,.i .i64 p.1)],
      .dead :: .dead :: .dead :: .mp ((fromK l l.length).map (asG (V.i .i64) (V.i .i64))) :: .mp ((loopsK (nxt l) l p.1).1.map (kt (V.i .i64))) :: .arr ((loopsK (nxt l) l p.1).2.length + 1) 1 p.2.2 :: p.2.1⟩)
     (fun p=>l.length - p.1) (0,[],[]) ⟨Nat.zero_le _,Held.nil 6,by simp [Flt],by simp [loopsK]⟩ ?_ ?_
    ·simp [go_sem,psV,loopsK]
     exact asI_cl2 _ _
    ·rintro⟨k,hx,cells⟩ ⟨hk,hH,hF,hkl⟩
     simp only at hk hH hF hkl ⊢
     by_cases hkl:k = l.length
     ·subst hkl
      have hfz:=held_if (base:=[.dead,.dead,.dead,.mp ((fromK l l.length).map (asG (V.i .i64) (V.i .i64))),.mp ((loopsK (nxt l) l l.length).1.map (kt (V.i .i64))),.arr ((loopsK (nxt l) l l.length).2.length + 1) 1 cells]) hH rfl
      simp only [List.cons_append,List.nil_append] at hfz
      generalize loopsK (nxt l) l l.length = D at *
      simp [go_sem,psV,topo_Loops.r,DoneF_r]
      rw [hfz];rfl
     ·have hlt:k < l.length:=by omega
      have hp:l[k]? = some l[k]:=List.getElem?_eq_getElem hlt
      have hmem:l[k] ∈ l:=List.getElem_mem _
      have hst:=loopsK_succ (nxt l) hp
      generalize l[k] = e at hp hst hmem
      obtain⟨_,hp'⟩:=List.getElem?_eq_some_iff.1 hp
      generalize loopsK (nxt l) l k = D at *
      obtain⟨done,ls⟩:=D
      simp only at *
      unfold loopStep at hst
      simp only at hst
      have f1:findE [1] (V.i .i64 e.x) (done.map (kt (V.i .i64))) = _:=findE_set key_i64 e.x done
      by_cases hd:e.x ∈ done
      ·rw [if_pos hd] at hst f1
       simp (disch:=omega) [go_sem,psV,hlt,hp,hp',pcs,f1,wrap64_small,app_get_r,app_get_0]
       exact⟨k + 1,hx,cells,⟨by omega,by rw [hst];exact hH,hF,by rw [hst];simp only;omega⟩,by omega,by omega,⟨by rw [hst],by simp⟩,asI_cl2 _ _,⟨by rw [hst],fun a _=>⟨rfl,rfl⟩⟩,⟨⟨by rw [hst],rfl⟩,hH.cl (by omega)⟩,hF.WeakH _⟩
      ·rw [if_neg hd] at hst f1
       simp (disch:=omega) [go_sem,psV,hlt,hp,hp',pcs,f1,wrap64_small,app_get_r,app_get_0]
       have hxA:e.x ∈ l.map P2.x:=List.mem_map.2 ⟨e,hmem,rfl⟩
       have htd:=todo_le (l.map P2.x) done
       rw [List.length_map] at htd
       generalize hR:walkW (nxt l) done (l.length + 1) [] e.x = R at hst
       refine AS_loopG [.t 14 1] (α:=Nat × List Int × Int) (fun q=>q.2.2 ∈ l.map P2.x∧todo (l.map P2.x) (done ++ q.2.1) < q.1∧walkW (nxt l) done q.1 q.2.1 q.2.2 = R∧q.2.1.length + q.1 ≤ l.length + 1)
        (fun q=>⟨[(7,.mp 3),(10,.own 5 (ls.length + 1) 0 ls.length),(11,.mp 4),(14,.own (hx.length + 7) (q.2.1.length + 1) 0 q.2.1.length),(15,.i .i64 q.2.2),(66,psV l),(67,.i .i64 l.length),(68,.i .i64 k)],
         .dead :: .dead :: .dead :: .mp ((fromK l l.length).map (asG (V.i .i64) (V.i .i64))) :: .mp ((done ++ q.2.1).map (kt (V.i .i64))) :: .arr (ls.length + 1) 1 cells :: (hx ++ [.dead,.arr (q.2.1.length + 1) 1 (ics q.2.1)])⟩)
        (fun q=>q.1) (l.length + 1,[],e.x) ⟨hxA,by simp only [List.append_nil];omega,hR,by simp⟩ ?_ ?_
       ·simp [go_sem,psV,ics]
        exact⟨asI_cl2 _ _,fun a _=>⟨rfl,rfl⟩,hH.cl (by omega),WeakH_app (fun o ho=>hF o ho _) (by simp [go_sem])⟩
       ·rintro⟨fu,w,v⟩ ⟨q1,q2,q3,q4⟩
        simp only at q1 q2 q3 q4 ⊢
        have f2:findE [1] (V.i .i64 v) ((done ++ w).map (kt (V.i .i64))) = _:=findE_set key_i64 v (done ++ w)
        cases fu with
        | zero=>omega
        | succ fu =>
          unfold walkW at q3
          by_cases hvd:v ∈ done ++ w
          ·rw [if_pos hvd] at q3 f2
           subst q3
           have htc:List.take ls.length cells = cells:=List.take_of_length_le (by rw [hH.1];exact Nat.le_refl _)
           have e4:hx.length + 7 = 6 + (hx.length + 1):=by omega
           have hHs:Held 6 (hx ++ [.dead,.arr (w.length + 1) 1 (ics w)]) (ls ++ [w]) (cells ++ [[.own (hx.length + 7) (w.length + 1) 0 w.length]]):=by
            rw [e4]
            exact (hH.app _).snoc (by rw [app_get_r];rfl)
           have hFs:Flt (hx ++ [.dead,.arr (w.length + 1) 1 (ics w)]):=hF.app fun o ho n=>by
            simp at ho
            rcases ho with rfl | rfl
            ·trivial
            ·exact ics_cl w n
           generalize hdw:done ++ w = dw at *
           simp (disch:=omega) [go_sem,psV,f2,wrap64_small,app_get_r,app_get_0,htc]
           refine⟨⟨by have:=hH.1;omega,by omega,by omega⟩,k + 1,hx ++ [.dead,.arr (w.length + 1) 1 (ics w)],_,⟨by omega,by rw [hst];exact hHs,hFs,by rw [hst];simp only [List.length_append,List.length_cons,List.length_nil];omega⟩,by omega,by simp,⟨by rw [hst];simp,by simp⟩,asI_cl2 _ _,⟨by rw [hst],fun a _=>⟨rfl,rfl⟩⟩,⟨⟨by rw [hst];simp,rfl⟩,hHs.cl (by simp;omega)⟩,?_⟩
           have:=hFs.WeakH (l:=[O.arr 1 1 [[V.own (hx.length + 7) (w.length + 1) 0 w.length]]]) ((hx ++ [O.dead,O.arr (w.length + 1) 1 (ics w)]).length + 1 + 1 + 1 + 1 + 1 + 1)
           rwa [List.append_assoc] at this
          ·rw [if_neg hvd] at q3 f2
           have htl:=todo_lt q1 hvd
           obtain⟨i4,hi4⟩:=hfx v q1
           have f4:findE [1] (V.i .i64 v) ((fromK l l.length).map (asG (V.i .i64) (V.i .i64))) = _:=findE_G key_i64 (V.i .i64) v (fromK l l.length)
           rw [hi4,Option.map_some] at f4
           have hnv:=hnm v q1
           rw [List.mem_map] at hnv
           have htw:List.take w.length (ics w) = ics w:=List.take_of_length_le (by simp [ics])
           have hdw2:done ++ (w ++ [v]) = done ++ w ++ [v]:=(List.append_assoc _ _ _).symm
           have hics:ics (w ++ [v]) = ics w ++ [[.i .i64 v]]:=by simp [ics]
           have hwl:(w ++ [v]).length = w.length + 1:=by simp
           have hwi:w.length ≤ (ics w).length:=by simp [ics]
           generalize hdw:done ++ w = dw at *
           simp (disch:=omega) [go_sem,psV,f2,f4,wrap64_small,app_get_r,app_get_0,htw,hwi]
           refine⟨⟨by omega,by omega⟩,fu,w ++ [v],nxt l v,⟨hnv,by rw [hdw2];omega,q3,by simp;omega⟩,by omega,⟨hwl.symm,rfl⟩,asI_cl2 _ _,⟨?_,?_⟩,hH.cl (by omega),?_⟩
           ·rw [← hdw];simp [kt]
           ·rintro a b (⟨_,_,h⟩ | ⟨_,_,h⟩) <;> (simp only [kt,Prod.mk.injEq] at h;obtain⟨rfl,rfl⟩:=h;exact⟨rfl,rfl⟩)
           ·rw [hics,hwl]
            exact WeakH_app (fun o ho=>hF o ho _) ⟨.inl rfl,.inr ⟨rfl,by rw [← hics];exact ics_cl _ _⟩,trivial⟩
   ·have hlt:k < l.length:=by omega
    have hp:l[k]? = some l[k]:=List.getElem?_eq_getElem hlt
    have hmem:l[k] ∈ l:=List.getElem_mem _
    have hfs:=fromK_succ hp
    generalize l[k] = e at hp hmem hfs
    obtain⟨_,hp'⟩:=List.getElem?_eq_some_iff.1 hp
    have hoe:okAt m l k = (decide (m.use e = 1) && (decide (m.use e.rev = 0) && !(decide (0 < k) && decide (((l[k - 1]?).getD ⟨0,0⟩).x = e.x)))):=by unfold okAt;rw [hp]
    have hfalse:okAt m l k = false→m.simple l = false:=simple_false hlt
    have hnext:okAt m l k = true→∀ i,i < k + 1→okAt m l i = true:=fun h i hi=>by
     by_cases hik:i = k
     ·subst hik;exact h
     ·exact hok i (by omega)
    obtain⟨i1,hi1⟩:=hfu e hmem
    have f1:findE [1,1] (V.a [V.i .i64 e.x,V.i .i64 e.y]) (T.map asV) = _:=findE_asV e T
    rw [hi1] at f1
    simp only [Option.map_some] at f1
    have f2:findE [1,1] (V.a [V.i .i64 e.y,V.i .i64 e.x]) (T.map asV) = _:=findE_asV e.rev T
    have hv2:=hvu e.rev
    unfold val at hv2
    have f3:findE [1] (V.i .i64 e.y) ((fromK l k).map (asG (V.i .i64) (V.i .i64))) = _:=findE_G key_i64 (V.i .i64) e.y (fromK l k)
    simp (disch:=omega) [go_sem,psV,hlt,hp,hp',pcs,f1]
    by_cases c1:m.use e = 1
    ·simp (disch:=omega) [go_sem,c1]
     refine DCall_is (hr e) ?_
     simp only [P2.enc,P2.rev,pcs]
     cases hfn:fnd e.rev T with
     | none =>
       rw [hfn] at f2 hv2
       simp only [Option.map_none] at f2
       simp only at hv2
       have c2:m.use e.rev = 0:=hv2.symm
       cases k with
       | zero =>
         have hT2:okAt m l 0 = true:=by rw [hoe];simp [c1,c2]
         cases hfg:fndG e.y (fromK l 0) with
         | none =>
           rw [hfg,Option.map_none] at f3
           simp (disch:=omega) [go_sem,psV,f2,wrap64_small,f3,c2]
           refine⟨1,⟨by omega,hnext hT2⟩,by omega,by simp,asV_cl _ _,?_,?_⟩
           ·rw [hfs,putG,hfg];simp [asG]
           ·exact asI_cl2 _ _
         | some p =>
           obtain⟨q,n3⟩:=p
           rw [hfg,Option.map_some] at f3
           simp (disch:=omega) [go_sem,psV,f2,wrap64_small,f3,c2]
           refine⟨1,⟨by omega,hnext hT2⟩,by omega,by simp,asV_cl _ _,?_,?_⟩
           ·rw [hfs,putG,hfg];simp [asG,List.map_set]
           ·exact asI_cl2 _ _
       | succ j =>
         have hq:l[j]? = some l[j]:=List.getElem?_eq_getElem (by omega)
         rw [Nat.add_sub_cancel,hq] at hoe
         simp only [Option.getD_some] at hoe
         generalize l[j] = d at hq hoe
         obtain⟨_,hq'⟩:=List.getElem?_eq_some_iff.1 hq
         by_cases c3:d.x = e.x
         ·have hF:okAt m l (j + 1) = false:=by rw [hoe];simp [c1,c2,c3]
          simp (disch:=omega) [go_sem,c2,c3,f2,psV,wrap64_small,hq,hq',pcs,show j < l.length by omega,hfalse hF,topo_Loops.r,DoneF_r,show (0:Int) < (j:Int) + 1 by omega]
         ·have hT2:okAt m l (j + 1) = true:=by rw [hoe];simp [c1,c2,c3]
          cases hfg:fndG e.y (fromK l (j + 1)) with
          | none =>
            rw [hfg,Option.map_none] at f3
            simp (disch:=omega) [go_sem,psV,f2,wrap64_small,f3,c2,c3,hq,hq',pcs,show j < l.length by omega,show (0:Int) < (j:Int) + 1 by omega]
            refine⟨j + 1 + 1,⟨by omega,hnext hT2⟩,by omega,by simp,asV_cl _ _,?_,?_⟩
            ·rw [hfs,putG,hfg];simp [asG]
            ·exact asI_cl2 _ _
          | some p =>
            obtain⟨q,n3⟩:=p
            rw [hfg,Option.map_some] at f3
            simp (disch:=omega) [go_sem,psV,f2,wrap64_small,f3,c2,c3,hq,hq',pcs,show j < l.length by omega,show (0:Int) < (j:Int) + 1 by omega]
            refine⟨j + 1 + 1,⟨by omega,hnext hT2⟩,by omega,by simp,asV_cl _ _,?_,?_⟩
            ·rw [hfs,putG,hfg];simp [asG,List.map_set]
            ·exact asI_cl2 _ _
     | some p =>
       obtain⟨jj,n2⟩:=p
       rw [hfn] at f2 hv2
       simp only [Option.map_some] at f2
       simp only at hv2
       by_cases c2:n2 = 0
       ·subst c2
        have c2:m.use e.rev = 0:=hv2.symm
        cases k with
        | zero =>
          have hT2:okAt m l 0 = true:=by rw [hoe];simp [c1,c2]
          cases hfg:fndG e.y (fromK l 0) with
          | none =>
            rw [hfg,Option.map_none] at f3
            simp (disch:=omega) [go_sem,psV,f2,wrap64_small,f3,c2]
            refine⟨1,⟨by omega,hnext hT2⟩,by omega,by simp,asV_cl _ _,?_,?_⟩
            ·rw [hfs,putG,hfg];simp [asG]
            ·exact asI_cl2 _ _
          | some p =>
            obtain⟨q,n3⟩:=p
            rw [hfg,Option.map_some] at f3
            simp (disch:=omega) [go_sem,psV,f2,wrap64_small,f3,c2]
            refine⟨1,⟨by omega,hnext hT2⟩,by omega,by simp,asV_cl _ _,?_,?_⟩
            ·rw [hfs,putG,hfg];simp [asG,List.map_set]
            ·exact asI_cl2 _ _
        | succ j =>
          have hq:l[j]? = some l[j]:=List.getElem?_eq_getElem (by omega)
          rw [Nat.add_sub_cancel,hq] at hoe
          simp only [Option.getD_some] at hoe
          generalize l[j] = d at hq hoe
          obtain⟨_,hq'⟩:=List.getElem?_eq_some_iff.1 hq
          by_cases c3:d.x = e.x
          ·have hF:okAt m l (j + 1) = false:=by rw [hoe];simp [c1,c2,c3]
           simp (disch:=omega) [go_sem,c2,c3,f2,psV,wrap64_small,hq,hq',pcs,show j < l.length by omega,hfalse hF,topo_Loops.r,DoneF_r,show (0:Int) < (j:Int) + 1 by omega]
          ·have hT2:okAt m l (j + 1) = true:=by rw [hoe];simp [c1,c2,c3]
           cases hfg:fndG e.y (fromK l (j + 1)) with
           | none =>
             rw [hfg,Option.map_none] at f3
             simp (disch:=omega) [go_sem,psV,f2,wrap64_small,f3,c2,c3,hq,hq',pcs,show j < l.length by omega,show (0:Int) < (j:Int) + 1 by omega]
             refine⟨j + 1 + 1,⟨by omega,hnext hT2⟩,by omega,by simp,asV_cl _ _,?_,?_⟩
             ·rw [hfs,putG,hfg];simp [asG]
             ·exact asI_cl2 _ _
           | some p =>
             obtain⟨q,n3⟩:=p
             rw [hfg,Option.map_some] at f3
             simp (disch:=omega) [go_sem,psV,f2,wrap64_small,f3,c2,c3,hq,hq',pcs,show j < l.length by omega,show (0:Int) < (j:Int) + 1 by omega]
             refine⟨j + 1 + 1,⟨by omega,hnext hT2⟩,by omega,by simp,asV_cl _ _,?_,?_⟩
             ·rw [hfs,putG,hfg];simp [asG,List.map_set]
             ·exact asI_cl2 _ _
       ·have hF:okAt m l k = false:=by rw [hoe];simp [c1,← hv2,c2]
        have c2':(n2 != 0) = true:=by simpa using c2
        simp (disch:=omega) [go_sem,c2,c2',f2,hfalse hF,topo_Loops.r,DoneF_r]
    ·have hF:okAt m l k = false:=by rw [hoe];simp [c1]
     have c1':(m.use e != 1) = true:=by simpa using c1
     simp (disch:=omega) [go_sem,c1,c1',hfalse hF,topo_Loops.r,DoneF_r]
     done
 cases hsi:m.simple m.border
 ·have he:m.loops = ([],13):=by simp [Mesh.loops,hz,hsi]
  rw [he]
  rw [hsi] at hmain
  exact CallIs.res (PureC.is hmain rfl) (lsV_no _)
 ·have he:m.loops = (loopsOf m.border,0):=by simp [Mesh.loops,hz,hsi]
  rw [he]
  rw [hsi] at hmain
  exact PureC.is hmain rfl
end
end Go.Abs
set_option linter.unusedVariables false
set_option linter.unusedSimpArgs false
namespace Go.Abs
def Cyc (nx:Int→Int) (w:List Int):Prop:=w ≠ []∧∀ (i:Nat) (v u:Int),w[i]? = some v→w[(i + 1) % w.length]? = some u→nx v = u
structure Perm1 (nx:Int→Int) (A:List Int):Prop where
 mem:∀ v ∈ A,nx v ∈ A
 inj:∀ v ∈ A,∀ u ∈ A,nx v = nx u→v = u
def PathTo (nx:Int→Int) (v0:Int) (w:List Int) (v:Int):Prop :=
 (w = []∧v = v0) ∨ (w[0]? = some v0∧(∀ (i:Nat) (a b:Int),w[i]? = some a→w[i + 1]? = some b→nx a = b)∧∃ z,w[w.length - 1]? = some z∧nx z = v)
theorem PathTo.snoc {nx:Int→Int} {v0 v:Int} {w:List Int} (h:PathTo nx v0 w v):PathTo nx v0 (w ++ [v]) (nx v):=by
 right
 rcases h with⟨rfl,rfl⟩ | ⟨h1,h2,z,h3,h4⟩
 ·refine⟨rfl,fun i a b ha hb=>?_,v,rfl,rfl⟩
  simp at hb
 ·have hne:0 < w.length:=(List.getElem?_eq_some_iff.1 h1).1
  refine⟨by rw [List.getElem?_append_left hne];exact h1,fun i a b ha hb=>?_,v,by simp,rfl⟩
  by_cases hi:i + 1 < w.length
  ·rw [List.getElem?_append_left (by omega)] at ha
   rw [List.getElem?_append_left hi] at hb
   exact h2 i a b ha hb
  ·have hlt:=(List.getElem?_eq_some_iff.1 hb).1
   simp at hlt
   have hi2:i = w.length - 1:=by omega
   rw [List.getElem?_append_left (by omega),hi2,h3] at ha
   rw [List.getElem?_append_right (by omega),show i + 1 - w.length = 0 by omega] at hb
   simp at ha hb
   subst ha;subst hb;exact h4
structure Walk (nx:Int→Int) (A done w:List Int):Prop where
 cyc:Cyc nx w
 nodup:(done ++ w).Nodup
 sub:∀ v ∈ w,v ∈ A
 clo:∀ v ∈ A,(v ∈ done ++ w ↔ nx v ∈ done ++ w)
theorem nodup_idx {l:List Int} (hn:l.Nodup) {i j:Nat} {a:Int} (hi:l[i]? = some a) (hj:l[j]? = some a):i = j:=by
 obtain⟨h1,h2⟩:=List.getElem?_eq_some_iff.1 hi
 obtain⟨h3,h4⟩:=List.getElem?_eq_some_iff.1 hj
 have e1:=hn.idxOf_getElem i h1
 have e2:=hn.idxOf_getElem j h3
 rw [h2] at e1;rw [h4] at e2
 omega
theorem walkW_ok {nx:Int→Int} {A done:List Int} (hP:Perm1 nx A) (hclo:∀ v ∈ A,(v ∈ done ↔ nx v ∈ done)) {v0:Int} (h0:v0 ∉ done) :
  ∀ (fu:Nat) (w:List Int) (v:Int),v ∈ A→PathTo nx v0 w v→(done ++ w).Nodup→(∀ u ∈ w,u ∈ A)→todo A (done ++ w) < fu→Walk nx A done (walkW nx done fu w v)
 | 0,w,v,_,_,_,_,h=>by omega
 | fu + 1,w,v,hv,hp,hn,hs,ht=>by
   unfold walkW
   by_cases hvd:v ∈ done ++ w
   ·rw [if_pos hvd]
    rcases hp with⟨rfl,rfl⟩ | ⟨h1,h2,z,h3,h4⟩
    ·rw [List.append_nil] at hvd;exact absurd hvd h0
    have hnd:=List.nodup_append.1 hn
    have hwn:w.Nodup:=hnd.2.1
    have hz:z ∈ w:=List.mem_of_getElem? h3
    have hzA:=hs z hz
    have hzd:z ∉ done:=fun h=>hnd.2.2 z h z hz rfl
    have hvn:v ∉ done:=fun h=>hzd ((hclo z hzA).2 (by rw [h4];exact h))
    have hvw:v ∈ w:=by
     rcases List.mem_append.1 hvd with h | h
     ·exact absurd h hvn
     ·exact h
    have hv0:v = v0:=by
     obtain⟨j,hj⟩:=List.getElem?_of_mem hvw
     have hjl:=(List.getElem?_eq_some_iff.1 hj).1
     cases j with
     | zero=>rw [h1] at hj;exact (Option.some.inj hj).symm
     | succ j =>
       have hq:w[j]? = some w[j]:=List.getElem?_eq_getElem (by omega)
       have:=h2 j _ _ hq hj
       have he:=hP.inj w[j] (hs w[j] (List.getElem_mem (by omega))) z hzA (by rw [this,h4])
       rw [he] at hq
       have:=nodup_idx hwn hq h3
       omega
    have hne:0 < w.length:=(List.getElem?_eq_some_iff.1 h1).1
    have hcyc:Cyc nx w:=by
     refine⟨by rintro rfl;simp at hne,fun i a b ha hb=>?_⟩
     have hi:=(List.getElem?_eq_some_iff.1 ha).1
     by_cases hl:i + 1 < w.length
     ·rw [Nat.mod_eq_of_lt hl] at hb
      exact h2 i a b ha hb
     ·have hi2:i = w.length - 1:=by omega
      rw [show i + 1 = w.length by omega,Nat.mod_self,h1] at hb
      rw [hi2,h3] at ha
      obtain rfl:=Option.some.inj ha
      obtain rfl:=Option.some.inj hb
      rw [h4,hv0]
    refine⟨hcyc,hn,hs,fun u hu=>?_⟩
    rw [List.mem_append,List.mem_append]
    constructor
    ·rintro (h | h)
     ·exact .inl ((hclo u hu).1 h)
     ·right
      obtain⟨i,hi⟩:=List.getElem?_of_mem h
      have hil:=(List.getElem?_eq_some_iff.1 hi).1
      have hm:(i + 1) % w.length < w.length:=Nat.mod_lt _ hne
      rw [hcyc.2 i u _ hi (List.getElem?_eq_getElem hm)]
      exact List.getElem_mem _
    ·rintro (h | h)
     ·exact .inl ((hclo u hu).2 h)
     ·right
      obtain⟨j,hj⟩:=List.getElem?_of_mem h
      cases j with
      | zero =>
        rw [h1] at hj
        have:nx u = nx z:=by rw [h4,hv0];exact (Option.some.inj hj).symm
        rw [hP.inj u hu z hzA this];exact hz
      | succ j =>
        have hjl:=(List.getElem?_eq_some_iff.1 hj).1
        have hq:w[j]? = some w[j]:=List.getElem?_eq_getElem (by omega)
        have:=h2 j _ _ hq hj
        rw [hP.inj u hu w[j] (hs w[j] (List.getElem_mem (by omega))) this.symm]
        exact List.getElem_mem _
   ·rw [if_neg hvd]
    refine walkW_ok hP hclo h0 fu (w ++ [v]) (nx v) (hP.mem v hv) hp.snoc ?_ (fun u hu=>?_) ?_
    ·rw [← List.append_assoc,List.nodup_append]
     exact⟨hn,by simp,fun a ha b hb=>by simp at hb;subst hb;rintro rfl;exact hvd ha⟩
    ·rcases List.mem_append.1 hu with h | h
     ·exact hs u h
     ·simp at h;subst h;exact hv
    ·rw [← List.append_assoc]
     have:=todo_lt hv hvd
     omega
structure LoopsOk (nx:Int→Int) (A:List Int) (s:List Int × List (List Int)):Prop where
 flat:s.2.flatten = s.1
 nodup:s.1.Nodup
 sub:∀ v ∈ s.1,v ∈ A
 clo:∀ v ∈ A,(v ∈ s.1 ↔ nx v ∈ s.1)
 cyc:∀ w ∈ s.2,Cyc nx w
theorem loopStep_ok {nx:Int→Int} {l:List P2} (hP:Perm1 nx (l.map P2.x)) {s:List Int × List (List Int)} (h:LoopsOk nx (l.map P2.x) s) {e:P2} (he:e ∈ l):LoopsOk nx (l.map P2.x) (loopStep nx l.length s e)∧e.x ∈ (loopStep nx l.length s e).1∧∀ v ∈ s.1,v ∈ (loopStep nx l.length s e).1:=by
 unfold loopStep
 by_cases hd:e.x ∈ s.1
 ·rw [if_pos hd];exact⟨h,hd,fun v hv=>hv⟩
 ·rw [if_neg hd]
  have hxA:e.x ∈ l.map P2.x:=List.mem_map.2 ⟨e,he,rfl⟩
  have htd:=todo_le (l.map P2.x) s.1
  rw [List.length_map] at htd
  have hw:=walkW_ok hP h.clo hd (l.length + 1) [] e.x hxA (.inl ⟨rfl,rfl⟩) (by rw [List.append_nil];exact h.nodup) (by simp) (by rw [List.append_nil];omega)
  have hx:e.x ∈ walkW nx s.1 (l.length + 1) [] e.x:=by
   have key:∀ (fu:Nat) (w:List Int) (v u:Int),u ∈ w→u ∈ walkW nx s.1 fu w v:=by
    intro fu
    induction fu with
    | zero=>intro w v u hu;exact hu
    | succ fu ih =>
      intro w v u hu
      unfold walkW
      split
      ·exact hu
      ·exact ih _ _ _ (by simp [hu])
   unfold walkW
   rw [List.append_nil,if_neg hd]
   exact key _ _ _ _ (by simp)
  refine⟨⟨by simp [h.flat],hw.nodup,fun v hv=>?_,hw.clo,fun w hw'=>?_⟩,by simp [hx],fun v hv=>by simp [hv]⟩
  ·rcases List.mem_append.1 hv with h1 | h1
   ·exact h.sub v h1
   ·exact hw.sub v h1
  ·rcases List.mem_append.1 hw' with h1 | h1
   ·exact h.cyc w h1
   ·simp at h1;subst h1;exact hw.cyc
theorem loopsK_ok {nx:Int→Int} {l:List P2} (hP:Perm1 nx (l.map P2.x)):∀ k,k ≤ l.length→LoopsOk nx (l.map P2.x) (loopsK nx l k)∧∀ e ∈ l.take k,e.x ∈ (loopsK nx l k).1
 | 0,_=>⟨⟨rfl,by simp [loopsK],by simp [loopsK],by simp [loopsK],by simp [loopsK]⟩,by simp⟩
 | k + 1,hk=>by
   have hp:l[k]? = some l[k]:=List.getElem?_eq_getElem (by omega)
   obtain⟨h1,h2⟩:=loopsK_ok hP k (by omega)
   obtain⟨q1,q2,q3⟩:=loopStep_ok hP h1 (List.getElem_mem (l:=l) (n:=k) (by omega))
   rw [loopsK_succ nx hp]
   refine⟨q1,fun e he=>?_⟩
   rw [take_succ_get hp] at he
   rcases List.mem_append.1 he with h | h
   ·exact q3 _ (h2 e h)
   ·simp at h;subst h;exact q2
theorem nxt_perm {m:Mesh} (hz:m.check = 0) (h:m.simple m.border = true):Perm1 (nxt m.border) (m.border.map P2.x) where
 mem v hv:=nxt_mem hz h hv
 inj v hv u hu he:=by
  rw [border_xy hz h] at hv hu
  obtain⟨a,ha,rfl⟩:=List.mem_map.1 hv
  obtain⟨b,hb,rfl⟩:=List.mem_map.1 hu
  have hy:=border_ynd hz h
  rw [nxt_of hy ha,nxt_of hy hb] at he
  have hx:=simple_xnd h (border_asc m)
  obtain⟨i,hi,rfl⟩:=List.mem_iff_getElem.1 ha
  obtain⟨j,hj,rfl⟩:=List.mem_iff_getElem.1 hb
  have e1:=hx.idxOf_getElem i (by simpa using hi)
  have e2:=hx.idxOf_getElem j (by simpa using hj)
  simp only [List.getElem_map] at e1 e2
  rw [he] at e1
  have:i = j:=by omega
  subst this;rfl
structure LoopsAre (m:Mesh) (ls:List (List Int)):Prop where
 cyc:∀ w ∈ ls,Cyc (nxt m.border) w
 nodup:ls.flatten.Nodup
 mem:∀ v,v ∈ ls.flatten ↔ v ∈ m.border.map P2.x
theorem loops_are {m:Mesh} (hz:m.check = 0) (h:m.simple m.border = true):LoopsAre m (loopsOf m.border):=by
 obtain⟨h1,h2⟩:=loopsK_ok (nxt_perm hz h) m.border.length (Nat.le_refl _)
 rw [List.take_length] at h2
 refine⟨h1.cyc,by unfold loopsOf;rw [h1.flat];exact h1.nodup,fun v=>?_⟩
 unfold loopsOf
 rw [h1.flat]
 constructor
 ·exact h1.sub v
 ·intro hv
  obtain⟨e,he,rfl⟩:=List.mem_map.1 hv
  exact h2 e he
end Go.Abs
