/- The reference's turning, and the statement on moves and turns, by values. -/
import Derived.Test.YtoppidobgkgiiaaGoShpP
set_option linter.unusedVariables false
set_option linter.unusedSimpArgs false
namespace Go.Abs

theorem cl_tkg {l : List V3} {k n : Nat} (g : V3 → V3) : ∀ el : List V, el ∈ List.take k (List.map (V3.cs ∘ g) l) → ∀ x : V, x ∈ el → x.cl n = true := by
  intro el hel x hx
  have := List.mem_of_mem_take hel
  simp only [List.mem_map, Function.comp] at this
  obtain ⟨a, _, rfl⟩ := this
  exact of_eq_true (vcs_cl _ n) x hx
def HeavyC (P : Program) (f : FuncId) : Prop := ∀ m : Mesh, CallIs P f [m.enc] (.b (decide (150 < m.verts.length) || decide (150 < m.tris.length)))
theorem moveV_ex (m : Mesh) (d : V3) (h1 : m.verts.length ≤ 1000000) (h2 : m.tris.length ≤ 1000000) : ∃ m' e, moveV m d = mesV m' e ∧ m'.verts.length ≤ 1000000 ∧ m'.tris.length ≤ 1000000 := by
  unfold moveV
  split
  · exact ⟨_, _, rfl, by simp [noMesh], by simp [noMesh]⟩
  · split
    · exact ⟨_, _, rfl, by simp [noMesh], by simp [noMesh]⟩
    · exact ⟨_, _, rfl, by simpa [Mesh.mapV] using h1, by simpa [Mesh.mapV] using h2⟩
theorem turnV_ex (m : Mesh) (n : Int) (h1 : m.verts.length ≤ 1000000) (h2 : m.tris.length ≤ 1000000) : ∃ m' e, turnV m n = mesV m' e ∧ m'.verts.length ≤ 1000000 ∧ m'.tris.length ≤ 1000000 := by
  unfold turnV
  split
  · exact ⟨_, _, rfl, by simp [noMesh], by simp [noMesh]⟩
  · exact ⟨_, _, rfl, by simpa [Mesh.mapV] using h1, by simpa [Mesh.mapV] using h2⟩

section
variable {P : Program} (hm : P.follows .mixedOrders = true)
include hm

set_option maxHeartbeats 4000000 in
theorem ref13_Turn_ok {f fk fw : FuncId} (hf : FnOk P f (ref13_Turn.c fk fw) ref13_Turn.r ref13_Turn.n) (hk : CheckC P fk) (hw : WithC P fw) : TurnC P f := by
  intro m n hn
  have hn' := inI_iff.1 hn
  by_cases h1 : m.check = 0
  case neg =>
    have : turnV m n = mesV noMesh 1 := by simp [turnV, h1]
    rw [this]
    refine CallIs.res (r := .t [.a [.nil, .nil], .i .i64 1]) ?_ (noMesh_le 1)
    refine PureC.is (pure_of hm hf (Nat.le_of_ble_eq_true rfl) ?_) rfl
    unfold ref13_Turn.c
    simp [go_sem, Mesh.enc, Mesh.cs]
    refine ACall_is (hk m) ?_
    simp [go_sem, h1, ref13_Turn.r]
  obtain ⟨z1, z2, z3, z4⟩ := Mesh.check_zero.1 h1
  obtain ⟨hq, hq4⟩ := quarter_lt n
  have hres : turnV m n = mesV (m.mapV (turnK (quarter n))) 0 := by simp [turnV, h1]
  rw [hres]
  have hb := Int.tmod_lt_of_pos n (show (0 : Int) < 4 by omega)
  have hb2 : -4 < n.tmod 4 := by
    have h3 := Int.tmod_lt_of_pos (-n) (show (0 : Int) < 4 by omega)
    rw [Int.neg_tmod] at h3
    omega
  refine PureC.is (pure_of hm hf (Nat.le_of_ble_eq_true rfl) ?_) rfl
  unfold ref13_Turn.c
  simp [go_sem, Mesh.enc, Mesh.cs]
  refine ACall_is (hk m) ?_
  simp [go_sem, h1, vsV]
  generalize quarter n = q at *
  refine AS_loopG [.t 6 3] (α := Nat) (fun k => k ≤ m.verts.length)
    (fun k => ⟨[(1, .i .i64 n), (2, .p 0 1 0 0), (4, .p 1 1 0 0), (6, .own 2 (k + 1) 0 k), (15, vsV m.verts), (16, .i .i64 m.verts.length), (17, .i .i64 k)], [.arr 1 2 [m.cs], .arr 1 2 [[.nil, .nil]], .arr (k + 1) 3 (((m.verts.take k).map (turnK q)).map V3.cs)]⟩)
    (fun k => m.verts.length - k) 0 (Nat.zero_le _) ?_ ?_
  · simp [go_sem, Mesh.cs, vsV, tsV, vcs, V.cl, V.cl1, V.cl0]
  · intro k hk'
    cases hp : m.verts[k]? with
    | none =>
      have : ¬ k < m.verts.length := by simpa using hp
      obtain rfl : k = m.verts.length := by omega
      simp [go_sem, Mesh.cs, vsV]
      refine ACall_frz (vs := [m.enc, vsV (m.verts.map (turnK q))]) ?_ (hw m (m.verts.map (turnK q)) (by omega)) ?_
      · simp [go_sem, frzAll, frz, frz0, Mesh.enc, Mesh.cs, vsV, tsV, vcs_isD, tcs_isD]
      · simp [go_sem, ref13_Turn.r, mesV, Mesh.mapV, Mesh.enc, Mesh.cs, vsV, tsV]
    | some p =>
      obtain ⟨hlt, hp'⟩ := List.getElem?_eq_some_iff.1 hp
      have hpv : p.valid = true := vsOk_get z3 hp
      simp [go_sem, vsV, hlt, hp', vcs]
      refine AS_loop (α := Nat) (fun j => j ≤ q)
        (fun j => ⟨[(1, .i .i64 n), (2, .p 0 1 0 0), (4, .p 1 1 0 0), (6, .own 2 (k + 1) 0 k), (8, .p 3 1 0 0), (9, .i .i64 j), (15, vsV m.verts), (16, .i .i64 m.verts.length), (17, .i .i64 k)], [.arr 1 2 [m.cs], .arr 1 2 [[.nil, .nil]], .arr (k + 1) 3 (((m.verts.take k).map (turnK q)).map V3.cs), .arr 1 3 [(turnK j p).cs]]⟩)
        (fun j => q - j) 0 (Nat.zero_le _) ?_ ?_
      · simp [go_sem, vcs, turnK, vsV]
        exact ⟨mcs_cl m, cl_tkg (turnK q)⟩
      · intro j hj
        have hvj := V3.valid_iff.1 (turnK_valid hpv j)
        by_cases hjq : j = q
        · subst hjq
          simp (disch := omega) [go_sem, wrap64_small, hq, vsV, vcs]
          refine ⟨⟨by omega, by omega⟩, k + 1, by omega, by omega, ⟨rfl, by omega⟩, mcs_cl m, ⟨rfl, ?_⟩, cl_tkg (turnK j)⟩
          rw [List.take_take, Nat.min_self]
          exact snoc_take (x := (turnK j p).cs) (by simp [hp])
        · have hlt2 : j < q := by omega
          simp (disch := omega) [go_sem, wrap64_small, hq, vsV, vcs, hlt2]
          exact ⟨j + 1, by omega, by omega, by omega, mcs_cl m, cl_tkg (turnK q), rfl, rfl, rfl⟩

theorem law13_heavy_ok {f : FuncId} (hf : FnOk P f law13_heavy.c law13_heavy.r law13_heavy.n) : HeavyC P f := by
  intro m
  refine PureC.is (pure_of hm hf (Nat.le_of_ble_eq_true rfl) ?_) rfl
  unfold law13_heavy.c
  by_cases h1 : 150 < m.verts.length
  · have h2 : (150 : Int) < m.verts.length := by omega
    simp [go_sem, Mesh.enc, Mesh.cs, vsV, tsV, law13_heavy.r, h1, h2]
  · have h2 : ¬ (150 : Int) < m.verts.length := by omega
    simp [go_sem, Mesh.enc, Mesh.cs, vsV, tsV, law13_heavy.r, h1, h2]
    omega

set_option maxHeartbeats 4000000 in
theorem ShapesMoves_ok {f fh fa fm frm ft frt fs : FuncId} (hf : FnOk P f (law13_ShapesMoves.c fh fa fm frm ft frt fs) law13_ShapesMoves.r law13_ShapesMoves.n)
    (hh : HeavyC P fh) (ha : AwakeC P fa) (hmv : MoveC P fm) (hrm : MoveC P frm) (ht : TurnC P ft) (hrt : TurnC P frt) (hs : SameMC P fs) (m : Mesh) (d : V3) (n : Int) (hd : d.inR = true) (hn : inI n = true) :
    PureC P f [m.enc, d.enc, .i .i64 n] (· = .b true) := by
  refine pure_of hm hf (Nat.le_of_ble_eq_true rfl) ?_
  unfold law13_ShapesMoves.c
  simp [go_sem, Mesh.enc, Mesh.cs, V3.enc, V3.cs]
  refine ACall_is (hh m) ?_
  by_cases hv : 150 < m.verts.length ∨ 150 < m.tris.length
  · have : (decide (150 < m.verts.length) || decide (150 < m.tris.length)) = true := by simpa using hv
    rw [this]
    simp [go_sem]
    refine ACall_is ha ?_
    simp [go_sem, law13_ShapesMoves.r]
  have : (decide (150 < m.verts.length) || decide (150 < m.tris.length)) = false := by simp; omega
  rw [this]
  obtain ⟨m1, e1, hme1, hv1, ht1⟩ := moveV_ex m d (by omega) (by omega)
  obtain ⟨m2, e2, hme2, hv2, ht2⟩ := turnV_ex m n (by omega) (by omega)
  simp [go_sem]
  refine ACall_is (hmv m d hd) ?_
  rw [hme1]
  simp [go_sem, mesV, Mesh.enc, Mesh.cs]
  refine ACall_is (hrm m d hd) ?_
  rw [hme1]
  simp [go_sem, mesV, Mesh.enc, Mesh.cs]
  refine ACall_is (ht m n hn) ?_
  rw [hme2]
  simp [go_sem, mesV, Mesh.enc, Mesh.cs]
  refine ACall_is (hrt m n hn) ?_
  rw [hme2]
  simp [go_sem, mesV, Mesh.enc, Mesh.cs]
  refine ACall_is (hs m1 hv1 ht1) ?_
  simp [go_sem]
  refine ACall_is (hs m2 hv2 ht2) ?_
  simp [go_sem]
  refine ACall_is ha ?_
  simp [go_sem, law13_ShapesMoves.r]
end
end Go.Abs

