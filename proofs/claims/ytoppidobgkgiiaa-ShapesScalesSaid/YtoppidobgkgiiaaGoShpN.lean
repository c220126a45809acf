/- What changing the vertices of a mesh by a function value does. -/
import Derived.Test.YtoppidobgkgiiaaGoHeap
import Derived.Test.YtoppidobgkgiiaaGoShpL
import Derived.Test.YtoppidobgkgiiaaGoShpF
set_option linter.unusedVariables false
set_option linter.unusedSimpArgs false
namespace Go.Abs

def mixed {α : Type} (l : List α) (g : α → α) (k : Nat) : List α := (l.take k).map g ++ l.drop k
theorem mixed_len {α : Type} (l : List α) (g : α → α) (k : Nat) : (mixed l g k).length = l.length := by simp [mixed]; omega
theorem mixed_get {α : Type} {l : List α} {g : α → α} {k : Nat} (h : k < l.length) : (mixed l g k)[k]? = some l[k] := by
  rw [mixed, List.getElem?_append_right (by simp; omega)]; simp; rw [show k + (k - min k l.length) = k by omega]; simp [h]
theorem mixed_set {α : Type} {l : List α} {g : α → α} {k : Nat} (h : k < l.length) : (mixed l g k).set k (g l[k]) = mixed l g (k + 1) := by
  rw [mixed, List.set_append_right _ _ (by simp; omega), show k - ((l.take k).map g).length = 0 by simp; omega]
  rw [List.drop_eq_getElem_cons h, List.set_cons_zero, mixed, List.take_add_one, List.getElem?_eq_getElem h]
  simp only [Option.toList, List.map_append, List.map_cons, List.map_nil, List.append_assoc, List.cons_append, List.nil_append]
theorem mixed_0 {α : Type} (l : List α) (g : α → α) : mixed l g 0 = l := by simp [mixed]
theorem mixed_all {α : Type} (l : List α) (g : α → α) : mixed l g l.length = l.map g := by simp [mixed]

def Mesh.mapV (m : Mesh) (g : V3 → V3) : Mesh := ⟨m.verts.map g, m.tris⟩

section
variable {P : Program} (hm : P.follows .mixedOrders = true)
include hm

omit hm in
set_option maxHeartbeats 8000000 in
theorem change_walk {fcv fct fn : FuncId} {caps : List V} {h : List O} {T : List Nat} {g : V3 → V3} {κ : X → St → Prop} (m : Mesh) (hv : m.verts.length ≤ 4096) (ht : m.tris.length ≤ 4096)
    (hcv : CloneC P fcv 3) (hct : CloneC P fct 3) (hcal : callable P fn = true) (hT : ∀ id ∈ T, id < h.length) (hcaps : ∀ n, h.length ≤ n → (V.f fn caps).cl n = true)
    (hcl : ∀ n, h.length ≤ n → ∀ o ∈ h, o.cl n)
    (hclo : ∀ v ∈ m.verts, ∀ h2 : List O, (∀ id ∈ T, h2[id]? = h[id]?) → ACall P fn (v.enc :: caps) h2 (fun r h' => r = (g v).enc ∧ h' = h2))
    (hk : ∀ env, get 4 env = .p (h.length + 1) 1 0 0 → κ .r ⟨env, h ++ [.dead, .arr 1 2 [[.own (h.length + 2) 1 0 m.verts.length, .own (h.length + 3) 1 0 m.tris.length]], .arr 1 3 ((m.verts.map g).map V3.cs), .arr 1 3 (m.tris.map T3.cs), .arr 1 2 [[.own (h.length + 2) 1 0 m.verts.length, .own (h.length + 3) 1 0 m.tris.length]]]⟩) :
    AS P h.length (shapes_change.c fcv fct) ⟨envFrom 0 [m.enc, .f fn caps], h⟩ κ := by
  unfold shapes_change.c
  simp [go_sem, Mesh.enc, Mesh.cs, vsV, tsV, app_get_r, app_get_0, app_set_r, app_set_0]
  refine DCall_new (hcv _ (by simp [vcs_isD]) (by simp; omega)) rfl ?_
  simp [go_sem, app_get_r, app_get_0, app_set_r, app_set_0, sh_vcs]
  refine DCall_new (hct _ (by simp [tcs_isD]) (by simp; omega)) rfl ?_
  simp [go_sem, app_get_r, app_get_0, app_set_r, app_set_0, sh_vcs, sh_tcs]
  refine AS_loop (α := Nat) (fun k => k ≤ m.verts.length)
    (fun k => ⟨[(1, .f fn caps), (4, .p (h.length + 1) 1 0 0), (5, .p (h.length + 4) 1 0 0), (16, .own (h.length + 2) 1 0 m.verts.length), (17, .i .i64 m.verts.length), (18, .i .i64 k)],
      h ++ [.dead, .arr 1 2 [[.nil, .nil]], .arr 1 3 ((mixed m.verts g k).map V3.cs), .arr 1 3 (m.tris.map T3.cs), .arr 1 2 [[.own (h.length + 2) 1 0 m.verts.length, .own (h.length + 3) 1 0 m.tris.length]]]⟩)
    (fun k => m.verts.length - k) 0 (Nat.zero_le _) ?_ ?_
  · simp [go_sem, mixed_0]
    refine ⟨fun x hx => ?_, WeakH_app (hcl _ (by omega)) ?_⟩
    · have := hcaps (h.length + 5) (by omega)
      simp only [V.cl, V.cl1, List.all_eq_true] at this
      exact this x hx
    · simp [go_sem, or_imp, forall_and, V.cl, V.cl1, V.cl0, vcs, tcs]
  · intro k hk0
    have hml := mixed_len m.verts g k
    by_cases hkl : k = m.verts.length
    · subst hkl
      rw [mixed_all]
      have hk2 := hk [(1, V.f fn caps), (4, V.p (h.length + 1) 1 0 0), (5, V.p (h.length + 4) 1 0 0), (16, V.own (h.length + 2) 1 0 m.verts.length), (17, V.i .i64 m.verts.length), (18, V.i .i64 m.verts.length), (19, V.b false), (31, V.a [V.own (h.length + 2) 1 0 m.verts.length, V.own (h.length + 3) 1 0 m.tris.length])] rfl
      rw [List.map_map] at hk2
      simp [go_sem, app_get_r, app_get_0, app_set_r, app_set_0]
      exact hk2
    · have hlt : k < m.verts.length := by omega
      have hget := mixed_get (g := g) hlt
      have hset := mixed_set (g := g) hlt
      have hgete : ∀ h', (mixed m.verts g k)[k]'h' = m.verts[k] := fun h' => (List.getElem_eq_iff h').2 hget
      simp [go_sem, app_get_r, app_get_0, app_set_r, app_set_0, hlt, hml, hgete, vcs]
      refine ⟨hcal, ?_⟩
      refine DCall_read (T := T) (r := (g m.verts[k]).enc) (fun id hid => ⟨by have := hT id hid; omega, by have := hT id hid; simp; omega⟩) (fun h2 hag => hclo m.verts[k] (List.getElem_mem hlt) h2 (fun id hid => ?_)) (chk_read (by simp)) ?_
      · rw [hag id hid, List.getElem?_append_left (hT id hid)]
      simp [go_sem, app_get_r, app_get_0, app_set_r, app_set_0, hlt, hml, V3.enc, vcs]
      have hcc : ∀ x ∈ caps, V.cl0 (h.length + 5) x = true := fun x hx => by
        have := hcaps (h.length + 5) (by omega)
        simp only [V.cl, V.cl1, List.all_eq_true] at this
        exact this x hx
      have hset2 : (List.map V3.cs (mixed m.verts g k)).set k [V.i .i64 (g m.verts[k]).x, V.i .i64 (g m.verts[k]).y, V.i .i64 (g m.verts[k]).z] = List.map V3.cs (mixed m.verts g (k + 1)) := by
        rw [← hset, List.map_set]; rfl
      rw [hset2]
      refine ⟨k + 1, by omega, by omega, ⟨hcc, wrap64_small (by omega) (by omega)⟩, WeakH_app (hcl _ (by omega)) ?_⟩
      simp [go_sem, or_imp, forall_and, V.cl, V.cl1, V.cl0, vcs, tcs]

/-- Changing in the caller's heap: new objects come back. -/
theorem change_own {f fcv fct fn : FuncId} {caps : List V} {h : List O} {T : List Nat} {g : V3 → V3} (hf : FnOk P f (shapes_change.c fcv fct) shapes_change.r shapes_change.n) (m : Mesh) (hv : m.verts.length ≤ 4096) (ht : m.tris.length ≤ 4096)
    (hcv : CloneC P fcv 3) (hct : CloneC P fct 3) (hcal : callable P fn = true) (hT : ∀ id ∈ T, id < h.length) (hcaps : ∀ n, h.length ≤ n → (V.f fn caps).cl n = true)
    (hcl : ∀ n, h.length ≤ n → ∀ o ∈ h, o.cl n)
    (hclo : ∀ v ∈ m.verts, ∀ h2 : List O, (∀ id ∈ T, h2[id]? = h[id]?) → ACall P fn (v.enc :: caps) h2 (fun r h' => r = (g v).enc ∧ h' = h2)) :
    ACall P f [m.enc, .f fn caps] h (fun r h' => r = .a [.own (h.length + 2) 1 0 m.verts.length, .own (h.length + 3) 1 0 m.tris.length] ∧
      h' = h ++ [.dead, .dead, .arr 1 3 ((m.verts.map g).map V3.cs), .arr 1 3 (m.tris.map T3.cs)]) := by
  refine call_intro hm hf (Nat.le_of_ble_eq_true rfl) (change_walk m hv ht hcv hct hcal hT hcaps hcl hclo fun env he => ?_)
  rw [DoneA_r]
  refine ⟨[.a [.own (h.length + 2) 1 0 m.verts.length, .own (h.length + 3) 1 0 m.tris.length]], h ++ [.dead, .dead, .arr 1 3 ((m.verts.map g).map V3.cs), .arr 1 3 (m.tris.map T3.cs)], ?_, rfl, ?_, ?_, ?_, ?_, rfl, rfl⟩
  · simp [shapes_change.r, readR, he, go_sem, app_get_r]
  · simp [V.cl, V.cl1, V.cl0]
  · simp
  · simp
  · refine WeakH_app (hcl _ (by simp)) ?_
    simp [go_sem, or_imp, forall_and, V.cl, V.cl1, V.cl0, vcs, tcs]

/-- Changing by a function value that holds nothing. -/
theorem change_val {f fcv fct fn : FuncId} {g : V3 → V3} (hf : FnOk P f (shapes_change.c fcv fct) shapes_change.r shapes_change.n) (m : Mesh) (hv : m.verts.length ≤ 4096) (ht : m.tris.length ≤ 4096)
    (hcv : CloneC P fcv 3) (hct : CloneC P fct 3) (hcal : callable P fn = true)
    (hclo : ∀ v ∈ m.verts, CallIs P fn [v.enc] (g v).enc) : CallIs P f [m.enc, .f fn []] (m.mapV g).enc := by
  refine PureC.is (pure_of hm hf (Nat.le_of_ble_eq_true rfl) ?_) rfl
  refine change_walk (h := []) (T := []) (g := g) m hv ht hcv hct hcal (by simp) (fun _ _ => rfl) (by simp) (fun v hvm h2 _ => hclo v hvm h2) fun env he => ?_
  rw [Done_r]
  simp [shapes_change.r, go_sem, he, Mesh.mapV, Mesh.enc, Mesh.cs, vsV, tsV, vcs_isD, tcs_isD]
end
end Go.Abs

