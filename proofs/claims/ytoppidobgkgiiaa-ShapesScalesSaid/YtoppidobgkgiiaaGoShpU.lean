/- What mirroring a mesh does, and the statement on scales, by values. -/
import Derived.Test.YtoppidobgkgiiaaGoShpT
set_option linter.unusedVariables false
set_option linter.unusedSimpArgs false
namespace Go.Abs

def mir (v : V3) : V3 := ⟨-v.x, v.y, v.z⟩
def mirV (m : Mesh) : V := if m.check ≠ 0 then mesV noMesh 1 else mesV (m.rev.mapV mir) 0
def MirrorC (P : Program) (f : FuncId) : Prop := ∀ m : Mesh, CallIs P f [m.enc] (mirV m)
def RevNewC (P : Program) (f : FuncId) : Prop := ∀ m : Mesh, m.check = 0 → NewC P f [m.enc] (fun r h => r = .a [.own 2 1 0 m.verts.length, .own 4 (m.tris.length + 1) 0 m.tris.length] ∧
  h = [.dead, .dead, .arr 1 3 (m.verts.map V3.cs), .dead, .arr (m.tris.length + 1) 3 ((m.tris.map T3.rev).map T3.cs)])
theorem cl_tkt {l : List T3} {k n : Nat} (g : T3 → T3) : ∀ el : List V, el ∈ List.take k (List.map (T3.cs ∘ g) l) → ∀ x : V, x ∈ el → x.cl n = true := by
  intro el hel x hx
  have := List.mem_of_mem_take hel
  simp only [List.mem_map, Function.comp] at this
  obtain ⟨a, _, rfl⟩ := this
  exact of_eq_true (tcs_cl _ n) x hx

section
variable {P : Program} (hm : P.follows .mixedOrders = true)
include hm

theorem Mirror_1_ok {f : FuncId} (hf : FnOk P f shapes_Mirror_1.c shapes_Mirror_1.r shapes_Mirror_1.n) {v : V3} (h : v.valid = true) : CallIs P f [v.enc] (mir v).enc := by
  have := V3.valid_iff.1 h
  refine PureC.is (pure_of hm hf (Nat.le_of_ble_eq_true rfl) ?_) rfl
  unfold shapes_Mirror_1.c
  simp (disch := omega) [go_sem, V3.enc, V3.cs, shapes_Mirror_1.r, mir, wrap64_small]

set_option maxHeartbeats 4000000 in
theorem shapes_Mirror_ok {f fk frv fch f1 : FuncId} (hf : FnOk P f (shapes_Mirror.c fk frv fch f1) shapes_Mirror.r shapes_Mirror.n) (hk : CheckC P fk) (hrv : ReverseC P frv)
    {fcv fct : FuncId} (hfch : FnOk P fch (shapes_change.c fcv fct) shapes_change.r shapes_change.n) (hcv : CloneC P fcv 3) (hct : CloneC P fct 3)
    (hf1 : FnOk P f1 shapes_Mirror_1.c shapes_Mirror_1.r shapes_Mirror_1.n) (hc1 : callable P f1 = true) : MirrorC P f := by
  intro m
  by_cases h1 : m.check = 0
  case neg =>
    have : mirV m = mesV noMesh 1 := by simp [mirV, h1]
    rw [this]
    refine CallIs.res (r := .t [.a [.nil, .nil], .i .i64 1]) ?_ (noMesh_le 1)
    refine PureC.is (pure_of hm hf (Nat.le_of_ble_eq_true rfl) ?_) rfl
    unfold shapes_Mirror.c
    simp [go_sem, Mesh.enc, Mesh.cs]
    refine ACall_is (hk m) ?_
    simp [go_sem, h1, shapes_Mirror.r]
  obtain ⟨z1, z2, z3, z4⟩ := Mesh.check_zero.1 h1
  have hres : mirV m = mesV (m.rev.mapV mir) 0 := by simp [mirV, h1]
  rw [hres]
  have hval : ∀ v ∈ m.rev.verts, v.valid = true := by
    intro v hv
    obtain ⟨i, hi⟩ := List.getElem?_of_mem hv
    exact vsOk_get z3 hi
  have hc := change_val hm (g := mir) hfch m.rev z1 (by simpa [Mesh.rev] using z2) hcv hct hc1 (fun v hv => Mirror_1_ok hm hf1 (hval v hv))
  refine PureC.is (pure_of hm hf (Nat.le_of_ble_eq_true rfl) ?_) rfl
  unfold shapes_Mirror.c
  simp [go_sem, Mesh.enc, Mesh.cs]
  refine ACall_is (hk m) ?_
  simp [go_sem, h1]
  refine ACall_is (hrv m h1) ?_
  simp [go_sem]
  refine ACall_is hc ?_
  simp [go_sem, shapes_Mirror.r, mesV, Mesh.enc, Mesh.cs, vsV, tsV]

set_option maxHeartbeats 4000000 in
theorem ref07_Reverse_ok {f fk : FuncId} (hf : FnOk P f (ref07_Reverse.c fk) ref07_Reverse.r ref07_Reverse.n) (hk : CheckC P fk) : RevNewC P f := by
  intro m hz
  obtain ⟨z1, z2, z3, z4⟩ := Mesh.check_zero.1 hz
  refine new_of hm hf (Nat.le_of_ble_eq_true rfl) ?_
  unfold ref07_Reverse.c
  simp [go_sem, Mesh.enc, Mesh.cs, vsV, tsV]
  refine ACall_is (hk m) ?_
  simp [go_sem, hz]
  refine ⟨by omega, ?_⟩
  refine AS_loopG [.c 3 0 1 3] (α := Nat) (fun k => k ≤ m.tris.length)
    (fun k => ⟨[(2, .p 1 1 0 0), (3, .p 3 1 0 0), (16, tsV m.tris), (17, .i .i64 m.tris.length), (18, .i .i64 k)], [.dead, .arr 1 2 [[.nil, .nil]], .arr 1 3 (m.verts.map V3.cs), .arr 1 2 [[.own 2 1 0 m.verts.length, .own 4 (k + 1) 0 k]], .arr (k + 1) 3 (((m.tris.take k).map T3.rev).map T3.cs)]⟩)
    (fun k => m.tris.length - k) 0 (Nat.zero_le _) ?_ ?_
  · simp [go_sem, tsV]
  · intro k hk'
    cases hp : m.tris[k]? with
    | none =>
      have : ¬ k < m.tris.length := by simpa using hp
      obtain rfl : k = m.tris.length := by omega
      simp [go_sem, tsV, ref07_Reverse.r]
    | some t =>
      obtain ⟨hlt, hp'⟩ := List.getElem?_eq_some_iff.1 hp
      simp [go_sem, tsV, hlt, hp', tcs]
      simp (disch := omega) [go_sem, wrap64_small]
      refine ⟨⟨by omega, by omega⟩, k + 1, by omega, by omega, by omega, rfl, ⟨rfl, ?_⟩, cl_tkt T3.rev⟩
      rw [List.take_take, Nat.min_self]
      exact snoc_take (x := t.rev.cs) (by simp [hp])

set_option maxHeartbeats 4000000 in
theorem ref13_Mirror_ok {f fk frv : FuncId} (hf : FnOk P f (ref13_Mirror.c fk frv) ref13_Mirror.r ref13_Mirror.n) (hk : CheckC P fk) (hrv : RevNewC P frv) : MirrorC P f := by
  intro m
  by_cases h1 : m.check = 0
  case neg =>
    have : mirV m = mesV noMesh 1 := by simp [mirV, h1]
    rw [this]
    refine CallIs.res (r := .t [.a [.nil, .nil], .i .i64 1]) ?_ (noMesh_le 1)
    refine PureC.is (pure_of hm hf (Nat.le_of_ble_eq_true rfl) ?_) rfl
    unfold ref13_Mirror.c
    simp [go_sem, Mesh.enc, Mesh.cs]
    refine ACall_is (hk m) ?_
    simp [go_sem, h1, ref13_Mirror.r]
  obtain ⟨z1, z2, z3, z4⟩ := Mesh.check_zero.1 h1
  have hres : mirV m = mesV (m.rev.mapV mir) 0 := by simp [mirV, h1]
  rw [hres]
  refine PureC.is (pure_of hm hf (Nat.le_of_ble_eq_true rfl) ?_) rfl
  unfold ref13_Mirror.c
  simp [go_sem, Mesh.enc, Mesh.cs]
  refine ACall_is (hk m) ?_
  simp [go_sem, h1]
  refine ACall_new (hrv m h1) rfl ?_
  simp [go_sem, sh_vcs]
  have sh2 : ((fun el => List.map (V.sh1 2) el) ∘ T3.cs ∘ T3.rev) = T3.cs ∘ T3.rev := by funext v; rfl
  refine AS_loop (α := Nat) (fun k => k ≤ m.verts.length)
    (fun k => ⟨[(2, .p 1 1 0 0), (4, .p 7 1 0 0), (14, .i .i64 m.verts.length), (15, .i .i64 k)], [.dead, .arr 1 2 [[.nil, .nil]], .dead, .dead, .arr 1 3 ((mixed m.verts mir k).map V3.cs), .dead, .arr (m.tris.length + 1) 3 ((m.tris.map T3.rev).map T3.cs), .arr 1 2 [[.own 4 1 0 m.verts.length, .own 6 (m.tris.length + 1) 0 m.tris.length]]]⟩)
    (fun k => m.verts.length - k) 0 (Nat.zero_le _) ?_ ?_
  · simp [go_sem, mixed_0, sh2]
  · intro k hk'
    have hml := mixed_len m.verts mir k
    by_cases hkl : k = m.verts.length
    · subst hkl
      rw [mixed_all]
      simp [go_sem, ref13_Mirror.r, mesV, Mesh.mapV, Mesh.rev, Mesh.enc, Mesh.cs, vsV, tsV, vcs_isD, tcs_isD]
    · have hlt : k < m.verts.length := by omega
      have hget := mixed_get (g := mir) hlt
      have hset := mixed_set (g := mir) hlt
      have hgete : ∀ h', (mixed m.verts mir k)[k]'h' = m.verts[k] := fun h' => (List.getElem_eq_iff h').2 hget
      have hv := V3.valid_iff.1 (vsOk_get z3 (List.getElem?_eq_getElem hlt))
      have wx := wrap64_small (z := -m.verts[k].x) (by omega) (by omega)
      simp [go_sem, hlt, hml, hgete, vcs, wx]
      refine ⟨k + 1, by omega, by omega, wrap64_small (by omega) (by omega), ?_⟩
      rw [← hset, List.map_set]; rfl

set_option maxHeartbeats 4000000 in
theorem ShapesScales_ok {f fh fa fsc frs fmi frm fs : FuncId} (hf : FnOk P f (law13_ShapesScales.c fh fa fsc frs fmi frm fs) law13_ShapesScales.r law13_ShapesScales.n)
    (hh : HeavyC P fh) (ha : AwakeC P fa) (hsc : ScaleC P fsc) (hrs : ScaleC P frs) (hmi : MirrorC P fmi) (hrm : MirrorC P frm) (hs : SameMC P fs) (m : Mesh) (a b : Int) :
    PureC P f [m.enc, .i .i64 a, .i .i64 b] (· = .b true) := by
  refine pure_of hm hf (Nat.le_of_ble_eq_true rfl) ?_
  unfold law13_ShapesScales.c
  simp [go_sem, Mesh.enc, Mesh.cs]
  refine ACall_is (hh m) ?_
  by_cases hv : 150 < m.verts.length ∨ 150 < m.tris.length
  · have : (decide (150 < m.verts.length) || decide (150 < m.tris.length)) = true := by simpa using hv
    rw [this]
    simp [go_sem]
    refine ACall_is ha ?_
    simp [go_sem, law13_ShapesScales.r]
  have : (decide (150 < m.verts.length) || decide (150 < m.tris.length)) = false := by simp; omega
  rw [this]
  have hex1 : ∃ m' e, scaleV m a b = mesV m' e ∧ m'.verts.length ≤ 1000000 ∧ m'.tris.length ≤ 1000000 := by
    unfold scaleV
    split
    · exact ⟨_, _, rfl, by simp [noMesh], by simp [noMesh]⟩
    · split
      · exact ⟨_, _, rfl, by simp [noMesh], by simp [noMesh]⟩
      · exact ⟨_, _, rfl, by simp [Mesh.mapV]; omega, by simp [Mesh.mapV]; omega⟩
  have hex2 : ∃ m' e, mirV m = mesV m' e ∧ m'.verts.length ≤ 1000000 ∧ m'.tris.length ≤ 1000000 := by
    unfold mirV
    split
    · exact ⟨_, _, rfl, by simp [noMesh], by simp [noMesh]⟩
    · exact ⟨_, _, rfl, by simp [Mesh.mapV, Mesh.rev]; omega, by simp [Mesh.mapV, Mesh.rev]; omega⟩
  obtain ⟨m1, e1, hme1, hv1, ht1⟩ := hex1
  obtain ⟨m2, e2, hme2, hv2, ht2⟩ := hex2
  simp [go_sem]
  refine ACall_is (hsc m a b) ?_
  rw [hme1]
  simp [go_sem, mesV, Mesh.enc, Mesh.cs]
  refine ACall_is (hrs m a b) ?_
  rw [hme1]
  simp [go_sem, mesV, Mesh.enc, Mesh.cs]
  refine ACall_is (hmi m) ?_
  rw [hme2]
  simp [go_sem, mesV, Mesh.enc, Mesh.cs]
  refine ACall_is (hrm m) ?_
  rw [hme2]
  simp [go_sem, mesV, Mesh.enc, Mesh.cs]
  refine ACall_is (hs m1 hv1 ht1) ?_
  simp [go_sem]
  refine ACall_is (hs m2 hv2 ht2) ?_
  simp [go_sem]
  refine ACall_is ha ?_
  simp [go_sem, law13_ShapesScales.r]
end
end Go.Abs

