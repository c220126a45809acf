/- What scaling a mesh does to values. -/
import Derived.Test.YtoppidobgkgiiaaGoShpS
set_option linter.unusedVariables false
set_option linter.unusedSimpArgs false
namespace Go.Abs

def scaleP (a b : Int) (v : V3) : V3 := ⟨rnd (v.x * a) b, rnd (v.y * a) b, rnd (v.z * a) b⟩
def scaleBad (m : Mesh) (a b : Int) : Prop := m.check ≠ 0 ∨ a < 1 ∨ 65536 < a ∨ b < 1 ∨ 65536 < b
instance (m : Mesh) (a b : Int) : Decidable (scaleBad m a b) := by unfold scaleBad; infer_instance
def scaleV (m : Mesh) (a b : Int) : V :=
  if scaleBad m a b then mesV noMesh 1 else if vsOk (m.verts.map (scaleP a b)) = false then mesV noMesh 8 else mesV (m.mapV (scaleP a b)) 0
def ScaleC (P : Program) (f : FuncId) : Prop := ∀ (m : Mesh) (a b : Int), CallIs P f [m.enc, .i .i64 a, .i .i64 b] (scaleV m a b)

theorem mul_in {c a : Int} (h1 : -65536 ≤ c ∧ c ≤ 65536) (h2 : 1 ≤ a ∧ a ≤ 65536) : -4294967296 ≤ c * a ∧ c * a ≤ 4294967296 := by
  have := mul_bd (a := c) (b := a) (k := 65536) (m := 65536) (by omega) (by omega)
  omega

section
variable {P : Program} (hm : P.follows .mixedOrders = true)
include hm

theorem Scale_1_ok {f fr : FuncId} (hf : FnOk P f (shapes_Scale_1.c fr) shapes_Scale_1.r shapes_Scale_1.n) (hr : RoundC P fr) (c a b : Int) {h : List O} {ia ib : Nat} (ha : h[ia]? = some (.arr 1 1 [[.i .i64 a]])) (hb : h[ib]? = some (.arr 1 1 [[.i .i64 b]]))
    (hc : -65536 ≤ c ∧ c ≤ 65536) (h1 : 1 ≤ a ∧ a ≤ 65536) (h2 : 1 ≤ b ∧ b ≤ 65536) :
    ACall P f [.i .i64 c, .p ia 1 0 0, .p ib 1 0 0] h (fun r h' => r = .i .i64 (rnd (c * a) b) ∧ h' = h) := by
  have hm1 := mul_in hc h1
  have w1 := wrap64_small (z := c * a) (by omega) (by omega)
  refine call_keep hm hf (Nat.le_of_ble_eq_true rfl) ?_
  unfold shapes_Scale_1.c
  simp [go_sem, ha, hb, w1]
  refine ACall_is (hr (c * a) b (by omega) (by omega) (by omega) (by omega)) ?_
  simp [go_sem, shapes_Scale_1.r]

theorem Scale_2_ok {f f1 fr : FuncId} (hf : FnOk P f shapes_Scale_2.c shapes_Scale_2.r shapes_Scale_2.n) (hf1 : FnOk P f1 (shapes_Scale_1.c fr) shapes_Scale_1.r shapes_Scale_1.n) (hc1 : callable P f1 = true) (hr : RoundC P fr) (v : V3) (a b : Int) {h : List O} {ia ib ic : Nat}
    (ha : h[ia]? = some (.arr 1 1 [[.i .i64 a]])) (hb : h[ib]? = some (.arr 1 1 [[.i .i64 b]])) (hc : h[ic]? = some (.arr 1 1 [[.f f1 [.p ia 1 0 0, .p ib 1 0 0]]]))
    (hv : v.valid = true) (h1 : 1 ≤ a ∧ a ≤ 65536) (h2 : 1 ≤ b ∧ b ≤ 65536) :
    ACall P f [v.enc, .p ic 1 0 0] h (fun r h' => r = (scaleP a b v).enc ∧ h' = h) := by
  have hlc : ic < h.length := (List.getElem?_eq_some_iff.1 hc).1
  have hla : ia < h.length := (List.getElem?_eq_some_iff.1 ha).1
  have hlb : ib < h.length := (List.getElem?_eq_some_iff.1 hb).1
  have hvv := V3.valid_iff.1 hv
  have hapc : ∀ l : List O, (h ++ l)[ic]? = some (.arr 1 1 [[.f f1 [.p ia 1 0 0, .p ib 1 0 0]]]) := fun l => by rw [List.getElem?_append_left hlc]; exact hc
  have hapa : ∀ l : List O, (h ++ l)[ia]? = some (.arr 1 1 [[.i .i64 a]]) := fun l => by rw [List.getElem?_append_left hla]; exact ha
  have hapb : ∀ l : List O, (h ++ l)[ib]? = some (.arr 1 1 [[.i .i64 b]]) := fun l => by rw [List.getElem?_append_left hlb]; exact hb
  have hcall : ∀ (c : Int), -65536 ≤ c ∧ c ≤ 65536 → ∀ (n0 : Nat) (l : List O) (js : List Nat) (lg : List (List Nat × List Nat)) (al : List Nat) (K : List Nat × List Nat → V → List O → Prop), h.length ≤ n0 → (∀ e ∈ lg, e.2 = []) → K ([ia, ib], []) (.i .i64 (rnd (c * a) b)) (h ++ l) →
      DCall P n0 js lg al f1 [.i .i64 c, .p ia 1 0 0, .p ib 1 0 0] (h ++ l) K := by
    intro c hcc n0 l js lg al K hn0 hlg hk
    refine DCall_read (T := [ia, ib]) (fun id hid => ?_) (fun h2' hag => ?_) (chk_read hlg) hk
    · simp at hid; simp; omega
    · exact Scale_1_ok hm hf1 hr c a b (by rw [hag ia (by simp)]; exact hapa l) (by rw [hag ib (by simp)]; exact hapb l) hcc h1 h2
  refine ACall_closed fun hcl => ?_
  refine call_intro hm hf (Nat.le_of_ble_eq_true rfl) ?_
  unfold shapes_Scale_2.c
  simp [go_sem, V3.enc, vcs, app_get_r, app_get_0, app_set_r, app_set_0, hapc]
  refine ⟨hc1, ?_⟩
  refine hcall v.x (by omega) _ _ _ _ _ _ (by omega) (by simp) ?_
  simp [go_sem, app_get_r, app_get_0, app_set_r, app_set_0, hapc]
  refine ⟨hc1, ?_⟩
  refine hcall v.y (by omega) _ _ _ _ _ _ (by omega) (by simp) ?_
  simp [go_sem, app_get_r, app_get_0, app_set_r, app_set_0, hapc]
  refine ⟨hc1, ?_⟩
  refine hcall v.z (by omega) _ _ _ _ _ _ (by omega) (by simp) ?_
  simp [go_sem, app_get_r, app_get_0, app_set_r, app_set_0, hapc]
  refine ⟨[(scaleP a b v).enc], by simp [shapes_Scale_2.r, go_sem, app_get_r, V3.enc, vcs, scaleP], by simp [V3.enc], h, by simp [V3.enc, vcs, V.cl, V.cl1, V.cl0], Nat.le_refl _, by omega, ?_, rfl, rfl⟩
  have := WeakH_app (n := h.length) (a := [.arr 1 3 [v.cs], .arr 1 3 [(scaleP a b v).cs]]) (b := []) (hcl h.length (Nat.le_refl _)) trivial
  rw [List.append_nil] at this
  exact this

set_option maxHeartbeats 4000000 in
theorem shapes_Scale_ok {f fk f1 f2 fch fck : FuncId} (hf : FnOk P f (shapes_Scale.c fk f1 f2 fch fck) shapes_Scale.r shapes_Scale.n) (hk : CheckC P fk)
    {fcv fct fr : FuncId} (hfch : FnOk P fch (shapes_change.c fcv fct) shapes_change.r shapes_change.n) (hcv : CloneC P fcv 3) (hct : CloneC P fct 3) (hf1 : FnOk P f1 (shapes_Scale_1.c fr) shapes_Scale_1.r shapes_Scale_1.n) (hc1 : callable P f1 = true)
    (hf2 : FnOk P f2 shapes_Scale_2.c shapes_Scale_2.r shapes_Scale_2.n) (hc2 : callable P f2 = true) (hr : RoundC P fr) (hck : CheckedC P fck) : ScaleC P f := by
  intro m a b
  by_cases hbad : scaleBad m a b
  · have : scaleV m a b = mesV noMesh 1 := by simp [scaleV, hbad]
    rw [this]
    refine CallIs.res (r := .t [.a [.nil, .nil], .i .i64 1]) ?_ (noMesh_le 1)
    refine PureC.is (pure_of hm hf (Nat.le_of_ble_eq_true rfl) ?_) rfl
    unfold shapes_Scale.c
    unfold scaleBad at hbad
    simp [go_sem, Mesh.enc, Mesh.cs]
    refine ACall_is (hk m) ?_
    by_cases h1 : m.check = 0
    · by_cases h2 : a < 1
      · simp [go_sem, h1, h2, shapes_Scale.r]
      · by_cases h3 : 65536 < a
        · simp [go_sem, h1, h2, h3, shapes_Scale.r]
        · by_cases h4 : b < 1
          · simp [go_sem, h1, h2, h3, h4, shapes_Scale.r]
          · have h5 : 65536 < b := by omega
            simp [go_sem, h1, h2, h3, h4, h5, shapes_Scale.r]
    · have hb : (m.check != 0) = true := by simpa using h1
      simp [go_sem, h1, hb, shapes_Scale.r]
  have hres : scaleV m a b = if vsOk (m.mapV (scaleP a b)).verts = false then mesV noMesh 8 else mesV (m.mapV (scaleP a b)) 0 := by
    unfold scaleV; rw [if_neg hbad]; rfl
  unfold scaleBad at hbad
  have h1 : m.check = 0 := by omega
  obtain ⟨z1, z2, z3, z4⟩ := Mesh.check_zero.1 h1
  have h2 : ¬ a < 1 := by omega
  have h3 : ¬ 65536 < a := by omega
  have h4 : ¬ b < 1 := by omega
  have h5 : ¬ 65536 < b := by omega
  have hexm : ∃ m' e, scaleV m a b = mesV m' e := by
    rw [hres]; split
    · exact ⟨_, _, rfl⟩
    · exact ⟨_, _, rfl⟩
  have hck' := hck (m.mapV (scaleP a b)) (by simp [Mesh.mapV]; omega)
  rw [← hres] at hck'
  obtain ⟨m', e, hme⟩ := hexm
  rw [hme] at hck' ⊢
  have hchg := change_own hm (h := [.arr 1 2 [m.cs], .arr 1 1 [[.i .i64 a]], .arr 1 1 [[.i .i64 b]], .arr 1 2 [[.nil, .nil]], .arr 1 1 [[.f f1 [.p 1 1 0 0, .p 2 1 0 0]]]]) (T := [1, 2, 4]) (caps := [.p 4 1 0 0]) (g := scaleP a b) hfch m z1 z2 hcv hct hc2 (by simp)
    (by intro n hn; simp [V.cl, V.cl1, V.cl0]; simp at hn; omega)
    (by intro n hn o ho; simp at hn; simp at ho; rcases ho with rfl | rfl | rfl | rfl | rfl <;> simp [O.cl, Mesh.cs, vsV, tsV, vcs, or_imp, forall_and, V.cl, V.cl1, V.cl0] <;> omega)
    (fun v hv h2' hag => by
      obtain ⟨i, hi⟩ := List.getElem?_of_mem hv
      exact Scale_2_ok hm hf2 hf1 hc1 hr v a b (by rw [hag 1 (by simp)]; rfl) (by rw [hag 2 (by simp)]; rfl) (by rw [hag 4 (by simp)]; rfl) (vsOk_get z3 hi) (by omega) (by omega))
  refine PureC.is (pure_of hm hf (Nat.le_of_ble_eq_true rfl) ?_) rfl
  unfold shapes_Scale.c
  simp [go_sem, Mesh.enc, Mesh.cs]
  refine ACall_is (hk m) ?_
  simp [go_sem, h1, h2, h3, h4, h5]
  refine ACall_to hchg ?_
  simp [go_sem]
  refine ACall_frz (vs := [(m.mapV (scaleP a b)).enc]) ?_ hck' ?_
  · simp [go_sem, frzAll, frz, frz0, Mesh.mapV, Mesh.enc, Mesh.cs, vsV, tsV, vcs_isD, tcs_isD]
  simp [go_sem, shapes_Scale.r, mesV, Mesh.enc, Mesh.cs, vsV, tsV]

set_option maxHeartbeats 4000000 in
theorem ref13_Scale_ok {f fk fr fv fw : FuncId} (hf : FnOk P f (ref13_Scale.c fk fr fv fw) ref13_Scale.r ref13_Scale.n) (hk : CheckC P fk) (hr : RoundC P fr) (hfit : FitsVC P fv) (hw : WithC P fw) : ScaleC P f := by
  intro m a b
  by_cases hbad : scaleBad m a b
  · have : scaleV m a b = mesV noMesh 1 := by simp [scaleV, hbad]
    rw [this]
    refine CallIs.res (r := .t [.a [.nil, .nil], .i .i64 1]) ?_ (noMesh_le 1)
    refine PureC.is (pure_of hm hf (Nat.le_of_ble_eq_true rfl) ?_) rfl
    unfold ref13_Scale.c
    unfold scaleBad at hbad
    simp [go_sem, Mesh.enc, Mesh.cs]
    refine ACall_is (hk m) ?_
    by_cases h1 : m.check = 0
    · by_cases h2 : a < 1
      · simp [go_sem, h1, h2, ref13_Scale.r]
      · by_cases h3 : 65536 < a
        · simp [go_sem, h1, h2, h3, ref13_Scale.r]
        · by_cases h4 : b < 1
          · simp [go_sem, h1, h2, h3, h4, ref13_Scale.r]
          · have h5 : 65536 < b := by omega
            simp [go_sem, h1, h2, h3, h4, h5, ref13_Scale.r]
    · have hb : (m.check != 0) = true := by simpa using h1
      simp [go_sem, h1, hb, ref13_Scale.r]
  have hle : Le (if vsOk (m.verts.map (scaleP a b)) = false then .t [.a [.nil, .nil], .i .i64 8] else mesV (m.mapV (scaleP a b)) 0) (scaleV m a b) := by
    unfold scaleV
    rw [if_neg hbad]
    split
    · exact noMesh_le 8
    · exact Le.refl _
  unfold scaleBad at hbad
  have h1 : m.check = 0 := by omega
  obtain ⟨z1, z2, z3, z4⟩ := Mesh.check_zero.1 h1
  have h2 : ¬ a < 1 := by omega
  have h3 : ¬ 65536 < a := by omega
  have h4 : ¬ b < 1 := by omega
  have h5 : ¬ 65536 < b := by omega
  have hfit' := (hfit (m.verts.map (scaleP a b)) (by simp; omega)).pure
  refine CallIs.res ?_ hle
  refine PureC.is (pure_of hm hf (Nat.le_of_ble_eq_true rfl) ?_) rfl
  unfold ref13_Scale.c
  simp [go_sem, Mesh.enc, Mesh.cs]
  refine ACall_is (hk m) ?_
  simp [go_sem, h1, h2, h3, h4, h5, vsV]
  refine AS_loopG [.t 8 3] (α := Nat) (fun k => k ≤ m.verts.length)
    (fun k => ⟨[(1, .i .i64 a), (2, .i .i64 b), (3, .p 0 1 0 0), (6, .p 1 1 0 0), (8, .own 2 (k + 1) 0 k), (38, vsV m.verts), (39, .i .i64 m.verts.length), (40, .i .i64 k)], [.arr 1 2 [m.cs], .arr 1 2 [[.nil, .nil]], .arr (k + 1) 3 (((m.verts.take k).map (scaleP a b)).map V3.cs)]⟩)
    (fun k => m.verts.length - k) 0 (Nat.zero_le _) ?_ ?_
  · simp [go_sem, Mesh.cs, vsV, tsV, vcs, V.cl, V.cl1, V.cl0]
  · intro k hk'
    cases hp : m.verts[k]? with
    | none =>
      have : ¬ k < m.verts.length := by simpa using hp
      obtain rfl : k = m.verts.length := by omega
      simp [go_sem, Mesh.cs, vsV]
      refine ACall_lend (vs := [vsV (m.verts.map (scaleP a b))]) ?_ hfit' rfl ?_
      · simp [go_sem, frzAll, frz, frz0, vsV, vcs_isD]
      cases hok : vsOk (m.verts.map (scaleP a b))
      · simp [go_sem, ref13_Scale.r]
      simp [go_sem]
      refine ACall_frz (vs := [m.enc, vsV (m.verts.map (scaleP a b))]) ?_ (hw m (m.verts.map (scaleP a b)) (by omega)) ?_
      · simp [go_sem, frzAll, frz, frz0, Mesh.enc, Mesh.cs, vsV, tsV, vcs_isD, tcs_isD]
      · simp [go_sem, ref13_Scale.r, mesV, Mesh.mapV, Mesh.enc, Mesh.cs, vsV, tsV]
    | some p =>
      obtain ⟨hlt, hp'⟩ := List.getElem?_eq_some_iff.1 hp
      have hpv := V3.valid_iff.1 (vsOk_get z3 hp)
      have mx := mul_in (c := p.x) (a := a) (by omega) (by omega)
      have my := mul_in (c := p.y) (a := a) (by omega) (by omega)
      have mz := mul_in (c := p.z) (a := a) (by omega) (by omega)
      have wx := wrap64_small (z := p.x * a) (by omega) (by omega)
      have wy := wrap64_small (z := p.y * a) (by omega) (by omega)
      have wz := wrap64_small (z := p.z * a) (by omega) (by omega)
      simp [go_sem, vsV, hlt, hp', vcs, wx]
      refine ACall_is (hr (p.x * a) b (by omega) (by omega) (by omega) (by omega)) ?_
      simp [go_sem, wy]
      refine ACall_is (hr (p.y * a) b (by omega) (by omega) (by omega) (by omega)) ?_
      simp [go_sem, wz]
      refine ACall_is (hr (p.z * a) b (by omega) (by omega) (by omega) (by omega)) ?_
      simp (disch := omega) [go_sem, wrap64_small]
      refine ⟨⟨by omega, by omega⟩, k + 1, by omega, by omega, ⟨rfl, by omega⟩, mcs_cl m, ⟨rfl, ?_⟩, cl_tkg (scaleP a b)⟩
      rw [List.take_take, Nat.min_self]
      exact snoc_take (x := (scaleP a b p).cs) (by simp [hp])
end
end Go.Abs

