/- What turning a mesh does, and the reference's moving and turning. -/
import Derived.Test.YtoppidobgkgiiaaGoShpO
set_option linter.unusedVariables false
set_option linter.unusedSimpArgs false
namespace Go.Abs

def WithC (P : Program) (f : FuncId) : Prop := ∀ (m : Mesh) (l : List V3), m.tris.length ≤ 1000000 → CallIs P f [m.enc, vsV l] (Mesh.mk l m.tris).enc
theorem mapV_map (m : Mesh) (f g : V3 → V3) : (m.mapV f).mapV g = m.mapV (fun v => g (f v)) := by simp [Mesh.mapV, Function.comp_def]
theorem mapV_id (m : Mesh) : m.mapV (fun v => v) = m := by simp [Mesh.mapV]

theorem snoc_take {α : Type} {L : List α} {k : Nat} {x : α} (h : L[k]? = some x) : L.take k ++ [x] = L.take (k + 1) := by simp [List.take_add_one, h]
theorem mcs_cl (m : Mesh) {n : Nat} : ∀ x : V, x ∈ m.cs → x.cl n = true := by
  intro x hx; simp [Mesh.cs] at hx; rcases hx with rfl | rfl <;> rfl
theorem cl_tk {l : List V3} {k n : Nat} (d : V3) : ∀ el : List V, el ∈ List.take k (List.map (V3.cs ∘ fun x => x.add d) l) → ∀ x : V, x ∈ el → x.cl n = true := by
  intro el hel x hx
  have := List.mem_of_mem_take hel
  simp only [List.mem_map, Function.comp] at this
  obtain ⟨a, _, rfl⟩ := this
  exact of_eq_true (vcs_cl _ n) x hx

section
variable {P : Program} (hm : P.follows .mixedOrders = true)
include hm

set_option maxHeartbeats 4000000 in
theorem shapes_Turn_ok {f fk fch f1 f2 : FuncId} (hf : FnOk P f (shapes_Turn.c fk fch f1 f2) shapes_Turn.r shapes_Turn.n) (hk : CheckC P fk)
    {fcv fct : FuncId} (hfch : FnOk P fch (shapes_change.c fcv fct) shapes_change.r shapes_change.n) (hcv : CloneC P fcv 3) (hct : CloneC P fct 3)
    (hf1 : FnOk P f1 shapes_Turn_1.c shapes_Turn_1.r shapes_Turn_1.n) (hc1 : callable P f1 = true) (hf2 : FnOk P f2 shapes_Turn_2.c shapes_Turn_2.r shapes_Turn_2.n) (hc2 : callable P f2 = true) : TurnC P f := by
  intro m n hn
  have hn' := inI_iff.1 hn
  by_cases h1 : m.check = 0
  case neg =>
    have : turnV m n = mesV noMesh 1 := by simp [turnV, h1]
    rw [this]
    refine CallIs.res (r := .t [.a [.nil, .nil], .i .i64 1]) ?_ (noMesh_le 1)
    refine PureC.is (pure_of hm hf (Nat.le_of_ble_eq_true rfl) ?_) rfl
    unfold shapes_Turn.c
    simp [go_sem, Mesh.enc, Mesh.cs]
    refine ACall_is (hk m) ?_
    simp [go_sem, h1, shapes_Turn.r]
  obtain ⟨z1, z2, z3, z4⟩ := Mesh.check_zero.1 h1
  obtain ⟨hq, hq4⟩ := quarter_lt n
  have hres : turnV m n = mesV (m.mapV (turnK (quarter n))) 0 := by simp [turnV, h1]
  rw [hres]
  have hb := Int.tmod_lt_of_pos n (show (0 : Int) < 4 by omega)
  have hb2 : -4 < n.tmod 4 := by
    have h3 := Int.tmod_lt_of_pos (-n) (show (0 : Int) < 4 by omega)
    rw [Int.neg_tmod] at h3
    omega
  refine PureC.is (pure_of hm hf (Nat.le_of_ble_eq_true rfl) ?_) rfl
  unfold shapes_Turn.c
  simp [go_sem, Mesh.enc, Mesh.cs]
  refine ACall_is (hk m) ?_
  simp (disch := omega) [go_sem, h1, wrap64_small, hq]
  refine AS_loop (α := Nat) (fun k => k ≤ quarter n)
    (fun k => ⟨[(2, .p 0 1 0 0), (4, .p 1 1 0 0), (13, .i .i64 (quarter n)), (14, .i .i64 k)], [.arr 1 2 [(m.mapV (turnK k)).cs], .arr 1 2 [[.nil, .nil]]]⟩)
    (fun k => quarter n - k) 0 (Nat.zero_le _) ?_ ?_
  · simp [go_sem, Mesh.cs, Mesh.mapV, turnK, vsV, tsV]
  · intro k hk'
    have hval : ∀ v ∈ (m.mapV (turnK k)).verts, v.valid = true := by
      intro v hv
      simp only [Mesh.mapV, List.mem_map] at hv
      obtain ⟨u, hu, rfl⟩ := hv
      obtain ⟨i, hi⟩ := List.getElem?_of_mem hu
      exact turnK_valid (vsOk_get z3 hi) k
    have e1 : (m.mapV (turnK k)).verts.length ≤ 4096 := by simp [Mesh.mapV]; omega
    have e2 : (m.mapV (turnK k)).tris.length ≤ 4096 := z2
    by_cases hkq : k = quarter n
    · subst hkq
      have hc := change_val hm (g := fun v => v) hfch (m.mapV (turnK (quarter n))) e1 e2 hcv hct hc2 (fun v hv => Turn_2_ok hm hf2 v)
      rw [mapV_id] at hc
      simp [go_sem, Mesh.cs]
      refine ACall_is hc ?_
      simp [go_sem, Mesh.enc, Mesh.cs, shapes_Turn.r, mesV, vsV, tsV]
    · have hc := change_val hm (g := turn1) hfch (m.mapV (turnK k)) e1 e2 hcv hct hc1 (fun v hv => Turn_1_ok hm hf1 (hval v hv))
      rw [mapV_map] at hc
      have hlt : k < quarter n := by omega
      simp [go_sem, Mesh.cs, hlt]
      refine ACall_is hc ?_
      simp (disch := omega) [go_sem, Mesh.enc, Mesh.cs, wrap64_small]
      refine ⟨k + 1, by omega, by omega, by omega, ?_⟩
      simp [Mesh.mapV, turnK, vsV, tsV, Function.comp_def, V.cl, V.cl1, V.cl0]

theorem ref13_with_ok {f : FuncId} (hf : FnOk P f ref13_with.c ref13_with.r ref13_with.n) : WithC P f := by
  intro m l hl
  refine PureC.is (pure_of hm hf (Nat.le_of_ble_eq_true rfl) ?_) rfl
  unfold ref13_with.c
  simp [go_sem, Mesh.enc, Mesh.cs, vsV, tsV, ref13_with.r, vcs_isD, tcs_isD]
  omega

set_option maxHeartbeats 4000000 in
theorem ref13_Move_ok {f fk fs fw : FuncId} (hf : FnOk P f (ref13_Move.c fk fs fw) ref13_Move.r ref13_Move.n) (hk : CheckC P fk) (hs : SumsC P fs) (hw : WithC P fw) : MoveC P f := by
  intro m d hd
  by_cases h1 : m.check = 0
  case neg =>
    have : moveV m d = mesV noMesh 1 := by simp [moveV, h1]
    rw [this]
    refine CallIs.res (r := .t [.a [.nil, .nil], .i .i64 1]) ?_ (noMesh_le 1)
    refine PureC.is (pure_of hm hf (Nat.le_of_ble_eq_true rfl) ?_) rfl
    unfold ref13_Move.c
    simp [go_sem, Mesh.enc, Mesh.cs, V3.enc, V3.cs]
    refine ACall_is (hk m) ?_
    simp [go_sem, h1, ref13_Move.r]
  obtain ⟨z1, z2, z3, z4⟩ := Mesh.check_zero.1 h1
  have hle : Le (if vsOk (m.verts.map (·.add d)) = false then .t [.a [.nil, .nil], .i .i64 8] else mesV (m.mapV (·.add d)) 0) (moveV m d) := by
    unfold moveV
    rw [if_neg (show ¬ m.check ≠ 0 by simp [h1])]
    split
    · exact noMesh_le 8
    · exact Le.refl _
  refine CallIs.res ?_ hle
  refine PureC.is (pure_of hm hf (Nat.le_of_ble_eq_true rfl) ?_) rfl
  unfold ref13_Move.c
  simp [go_sem, Mesh.enc, Mesh.cs, V3.enc, V3.cs]
  refine ACall_is (hk m) ?_
  simp [go_sem, h1, vsV]
  refine AS_loopG [.t 6 3] (α := Nat) (fun k => k ≤ m.verts.length ∧ vsOk ((m.verts.map (·.add d)).take k) = true)
    (fun k => ⟨[(2, .p 0 1 0 0), (3, .p 1 1 0 0), (4, .p 2 1 0 0), (6, .own 3 (k + 1) 0 k), (16, vsV m.verts), (17, .i .i64 m.verts.length), (18, .i .i64 k)], [.arr 1 2 [m.cs], .arr 1 3 [d.cs], .arr 1 2 [[.nil, .nil]], .arr (k + 1) 3 (((m.verts.take k).map (·.add d)).map V3.cs)]⟩)
    (fun k => m.verts.length - k) 0 ⟨Nat.zero_le _, rfl⟩ ?_ ?_
  · simp [go_sem, Mesh.cs, vsV, tsV, vcs, V.cl, V.cl1, V.cl0]
  · rintro k ⟨hk', hok⟩
    cases hp : m.verts[k]? with
    | none =>
      have : ¬ k < m.verts.length := by simpa using hp
      obtain rfl : k = m.verts.length := by omega
      rw [List.take_of_length_le (by simp)] at hok
      simp [go_sem, Mesh.cs, vsV]
      refine ACall_frz (vs := [m.enc, vsV (m.verts.map (·.add d))]) ?_ (hw m (m.verts.map (·.add d)) (by omega)) ?_
      · simp [go_sem, frzAll, frz, frz0, Mesh.enc, Mesh.cs, vsV, tsV, vcs_isD, tcs_isD]
      · simp [go_sem, ref13_Move.r, hok, mesV, Mesh.mapV, Mesh.enc, Mesh.cs, vsV, tsV]
    | some p =>
      obtain ⟨hlt, hp'⟩ := List.getElem?_eq_some_iff.1 hp
      have hpv : p.valid = true := vsOk_get z3 hp
      simp [go_sem, vsV, hlt, hp', vcs]
      refine ACall_is (hs p d (valid_inR hpv) hd) ?_
      rw [sumsOk_iff hpv]
      cases hv : (p.add d).valid
      · have hbad : vsOk (m.verts.map (·.add d)) = false := vsOk_false (k := k) (x := p.add d) (by simp [hp]) hv
        simp [go_sem, V3.enc, vcs, hbad, ref13_Move.r]
      · rw [sumsOk_add (by rw [sumsOk_iff hpv]; exact hv)]
        simp (disch := omega) [go_sem, V3.enc, vcs, wrap64_small]
        refine ⟨⟨by omega, by omega⟩, k + 1, ⟨by omega, ?_⟩, by omega, ⟨rfl, by omega⟩, mcs_cl m, ⟨rfl, ?_⟩, cl_tk d⟩
        · rw [vsOk_succ (x := p.add d) (by simp [hp]), hok, hv]; rfl
        · rw [List.take_take, Nat.min_self]
          exact snoc_take (x := (p.add d).cs) (by simp [hp])
end
end Go.Abs

