/- Part of the abstract machine on which the proof stands: its values, code and their soundness against the model. -/
import Derived.Test.YtkefjgfcbcpcbaaGoWeH
set_option linter.unusedVariables false
set_option linter.unusedSimpArgs false
namespace Go.Abs

theorem corners_get {m : Mesh} (hz : m.check = 0) {k : Nat} {t : T3} (h : m.tris[k]? = some t) : m.corners k = .t [(m.v t.a).enc, (m.v t.b).enc, (m.v t.c).enc, .b true] := by
  have hlt := (List.getElem?_eq_some_iff.1 h).1
  unfold Mesh.corners
  rw [if_pos ⟨by omega, by omega, hz⟩, Int.toNat_natCast, h]
def CornEqC (P : Program) (f : FuncId) : Prop := ∀ (a b : Mesh), a.tris.length ≤ 1000000 → a.check = 0 → b.check = 0 →
  (∀ (k : Nat) (t : T3), a.tris[k]? = some t → ∃ u, b.tris[k]? = some u ∧ a.cor t = b.cor u) → CallIs P f [a.enc, b.enc] (.b true)

theorem nodup_get_inj {l : List V3} (hn : l.Nodup) {i j : Int} (i0 : 0 ≤ i) (i1 : i < l.length) (j0 : 0 ≤ j) (j1 : j < l.length) (h : l[i.toNat]? = l[j.toNat]?) : i = j := by
  have hi : i.toNat < l.length := by omega
  have hj : j.toNat < l.length := by omega
  rw [List.getElem?_eq_getElem hi, List.getElem?_eq_getElem hj] at h
  have e1 : l.idxOf l[i.toNat] = i.toNat := by rw [hn.idxOf_getElem]
  have e2 : l.idxOf l[j.toNat] = j.toNat := by rw [hn.idxOf_getElem]
  rw [Option.some.inj h] at e1
  omega
theorem wtri_eq {m : Mesh} (hz : m.check = 0) (hn : m.verts.Nodup) {s t : T3} (hs : s ∈ m.tris) (ht : t ∈ m.tris) :
    (idxV m.wverts (m.v s.a) = idxV m.wverts (m.v t.a) ↔ s.a = t.a) ∧ (idxV m.wverts (m.v s.a) = idxV m.wverts (m.v t.b) ↔ s.a = t.b) ∧ (idxV m.wverts (m.v s.a) = idxV m.wverts (m.v t.c) ↔ s.a = t.c) ∧
    (idxV m.wverts (m.v s.b) = idxV m.wverts (m.v t.a) ↔ s.b = t.a) ∧ (idxV m.wverts (m.v s.b) = idxV m.wverts (m.v t.b) ↔ s.b = t.b) ∧ (idxV m.wverts (m.v s.b) = idxV m.wverts (m.v t.c) ↔ s.b = t.c) ∧
    (idxV m.wverts (m.v s.c) = idxV m.wverts (m.v t.a) ↔ s.c = t.a) ∧ (idxV m.wverts (m.v s.c) = idxV m.wverts (m.v t.b) ↔ s.c = t.b) ∧ (idxV m.wverts (m.v s.c) = idxV m.wverts (m.v t.c) ↔ s.c = t.c) := by
  obtain ⟨a1, a2, a3⟩ := cor_mem hs
  obtain ⟨b1, b2, b3⟩ := cor_mem ht
  obtain ⟨i0, i1, j0, j1, l0, l1⟩ := tok hz hs
  obtain ⟨i0', i1', j0', j1', l0', l1'⟩ := tok hz ht
  have key : ∀ {x y : Int}, m.v x ∈ m.wverts → m.v y ∈ m.wverts → 0 ≤ x → x < m.verts.length → 0 ≤ y → y < m.verts.length → (idxV m.wverts (m.v x) = idxV m.wverts (m.v y) ↔ x = y) := by
    intro x y hx hy x0 x1 y0 y1
    refine ⟨fun h => ?_, fun h => by rw [h]⟩
    have h2 := idxV_inj hx hy h
    exact nodup_get_inj hn x0 x1 y0 y1 (by rw [mv_get x0 x1, mv_get y0 y1, h2])
  exact ⟨key a1 b1 i0 i1 i0' i1', key a1 b2 i0 i1 j0' j1', key a1 b3 i0 i1 l0' l1', key a2 b1 j0 j1 i0' i1', key a2 b2 j0 j1 j0' j1', key a2 b3 j0 j1 l0' l1', key a3 b1 l0 l1 i0' i1', key a3 b2 l0 l1 j0' j1', key a3 b3 l0 l1 l0' l1'⟩
theorem wtri_twins {m : Mesh} (hz : m.check = 0) (hn : m.verts.Nodup) {s t : T3} (hs : s ∈ m.tris) (ht : t ∈ m.tris) : (wtri m m.wverts s).twins (wtri m m.wverts t) = s.twins t := by
  obtain ⟨e1, e2, e3, e4, e5, e6, e7, e8, e9⟩ := wtri_eq hz hn hs ht
  cases s; cases t
  simp only at e1 e2 e3 e4 e5 e6 e7 e8 e9
  simp only [T3.twins, wtri, T3.rot, T3.mk.injEq, e1, e2, e3, e4, e5, e6, e7, e8, e9]
theorem deg_weld {m : Mesh} {t : T3} (ht : t ∈ m.tris) : m.weldM.deg (wtri m m.wverts t) = m.deg t := by
  obtain ⟨h1, h2, h3⟩ := cor_mem ht
  simp only [Mesh.deg, wtri, weld_v h1, weld_v h2, weld_v h3]
/-- Cleaning after welding. -/
theorem clean_weld {m : Mesh} (hz : m.check = 0) (hn : m.verts.Nodup) :
    cleanL m.weldM.deg m.weldM.tris = ⟨(cleanL m.deg m.tris).out.map (wtri m m.wverts), (cleanL m.deg m.tris).deg, (cleanL m.deg m.tris).twin⟩ :=
  cleanL_map (fun t ht => deg_weld ht) (fun s hs t ht => wtri_twins hz hn hs ht)
theorem first_cor {m : Mesh} (hz : m.check = 0) (hn : m.verts.Nodup) {k : Nat} {t : T3} (h : m.weldM.cleanM.tris[k]? = some t) :
    ∃ u, m.cleanM.weldM.tris[k]? = some u ∧ m.weldM.cleanM.cor t = m.cleanM.weldM.cor u := by
  have h1 : m.weldM.cleanM.tris = (cleanL m.deg m.tris).out.map (wtri m m.wverts) := by simp only [Mesh.cleanM]; rw [clean_weld hz hn]
  rw [h1, List.getElem?_map, Option.map_eq_some_iff] at h
  obtain ⟨s, hs, rfl⟩ := h
  have hok := cleanL_ok m.deg m.tris
  have hsm : s ∈ m.cleanM.tris := List.mem_of_getElem? hs
  have hst : s ∈ m.tris := hok.sub.subset hsm
  refine ⟨wtri m.cleanM m.cleanM.wverts s, ?_, ?_⟩
  · show (m.cleanM.tris.map _)[k]? = _
    rw [List.getElem?_map]
    have : m.cleanM.tris[k]? = some s := hs
    rw [this]; rfl
  · rw [weld_cor hsm]
    exact weld_cor hst

section
variable {P : Program} (hm : P.follows .mixedOrders = true)
include hm

set_option maxHeartbeats 1000000 in
theorem law09_corners_ok {f fc : FuncId} (hf : FnOk P f (law09_corners.c fc) law09_corners.r law09_corners.n) (hc : CornersC P fc) : CornEqC P f := by
  intro a b hal za zb hab
  refine PureC.is (pure_of hm hf (Nat.le_of_ble_eq_true rfl) ?_) rfl
  unfold law09_corners.c
  simp [go_sem, Mesh.enc, Mesh.cs, vsV, tsV]
  refine AS_loop (α := Nat) (fun k => k ≤ a.tris.length) (fun k => ⟨[(2, .p 0 1 0 0), (3, .p 1 1 0 0), (5, .i .i64 k)], [.arr 1 2 [a.cs], .arr 1 2 [b.cs]]⟩) (fun k => a.tris.length - k) 0 (Nat.zero_le _) ?_ ?_
  · simp [go_sem, Mesh.cs, vsV, tsV]
  · intro k hk
    by_cases hkl : k = a.tris.length
    · subst hkl
      simp [go_sem, Mesh.cs, vsV, tsV, law09_corners.r]
    · have hlt : k < a.tris.length := by omega
      have hp : a.tris[k]? = some a.tris[k] := List.getElem?_eq_getElem hlt
      generalize a.tris[k] = t at hp
      obtain ⟨u, hu, hcor⟩ := hab k t hp
      simp only [Mesh.cor, List.cons.injEq, and_true] at hcor
      obtain ⟨c1, c2, c3⟩ := hcor
      simp [go_sem, Mesh.cs, vsV, tsV, hlt]
      refine ACall_is (hc a k) ?_
      rw [corners_get za hp, c1, c2, c3]
      simp [go_sem, V3.enc, vcs]
      refine ACall_is (hc b k) ?_
      rw [corners_get zb hu]
      simp (disch := omega) [go_sem, V3.enc, vcs, wrap64_small]
      exact ⟨k + 1, by omega, by omega, rfl⟩
end
end Go.Abs

set_option linter.unusedVariables false
set_option linter.unusedSimpArgs false
namespace Go.Abs

theorem v3_ne (a b : V3) : decide (a = b) = (a.x == b.x && (a.y == b.y && a.z == b.z)) := by cases a; cases b; rw [Bool.eq_iff_iff]; simp [V3.mk.injEq]
theorem noMesh_clean : cleanR noMesh = (noMesh, 0, 0, 0) := by decide +kernel
theorem noMesh_weld : weldR noMesh = (noMesh, 0, 0) := by decide +kernel
theorem nodup_of {l : List V3} (h : ∀ (i j : Nat) (a b : V3), j < i → l[i]? = some a → l[j]? = some b → a ≠ b) : l.Nodup := by
  rw [List.nodup_iff_pairwise_ne, List.pairwise_iff_getElem]
  intro i j hi hj hij
  exact fun he => h j i _ _ hij (List.getElem?_eq_getElem hj) (List.getElem?_eq_getElem hi) he.symm

section
variable {P : Program} (hm : P.follows .mixedOrders = true)
include hm

set_option maxRecDepth 20000 in
set_option maxHeartbeats 4000000 in
theorem WeldFirst_ok {f ff fa fw fc fk : FuncId} (hf : FnOk P f (law09_WeldFirst.c ff fa fw fc fk) law09_WeldFirst.r law09_WeldFirst.n) (hff : FewC P ff) (ha : AwakeC P fa) (hw : WeldC P fw) (hc : CleanC P fc) (hk : CornEqC P fk)
    (m : Mesh) (h1 : m.verts.length ≤ 9223372036854775807) (h2 : m.tris.length ≤ 9223372036854775807) : PureC P f [m.enc] (· = .b true) := by
  refine pure_of hm hf (Nat.le_of_ble_eq_true rfl) ?_
  unfold law09_WeldFirst.c
  simp [go_sem, Mesh.enc, Mesh.cs]
  refine ACall_is (hff m h1 h2) ?_
  have hl0 := few_len m
  generalize m.few = m at hl0
  simp [go_sem, Mesh.enc, Mesh.cs]
  refine AS_loop (α := Nat) (fun k => k ≤ m.verts.length ∧ ∀ (i j : Nat) (a b : V3), i < k → j < i → m.verts[i]? = some a → m.verts[j]? = some b → a ≠ b)
    (fun k => ⟨[(1, .p 0 1 0 0), (3, .i .i64 k)], [.arr 1 2 [m.cs]]⟩) (fun k => m.verts.length - k) 0 ⟨Nat.zero_le _, fun i j a b h => by omega⟩ ?_ ?_
  · simp [go_sem, Mesh.cs, vsV, tsV]
  · rintro k ⟨hkb, hd⟩
    by_cases hkl : k = m.verts.length
    · subst hkl
      have hn : m.verts.Nodup := nodup_of fun i j a b hji hi hj => hd i j a b (List.getElem?_eq_some_iff.1 hi).1 hji hi hj
      simp [go_sem, Mesh.cs, vsV, tsV]
      have hw1 := hw m
      simp only [Mesh.enc, Mesh.cs, vsV, tsV] at hw1
      refine ACall_is hw1 ?_
      by_cases hz : m.check = 0
      case neg =>
        have he : weldR m = (noMesh, 0, m.check) := by simp [weldR, hz]
        have hc1 := hc noMesh
        rw [noMesh_clean] at hc1
        have hc2 := hc m
        have he2 : cleanR m = (noMesh, 0, 0, m.check) := by simp [cleanR, hz]
        rw [he2] at hc2
        have hw2 := hw noMesh
        rw [noMesh_weld] at hw2
        rw [he]
        simp [go_sem, weldV, noMesh, Mesh.enc, Mesh.cs, vsV, tsV, hz]
        refine ACall_is hc1 ?_
        simp [go_sem, cleanV, noMesh, Mesh.enc, Mesh.cs, vsV, tsV, hz]
        refine ACall_is hc2 ?_
        simp [go_sem, cleanV, noMesh, Mesh.enc, Mesh.cs, vsV, tsV, hz]
        refine ACall_is hw2 ?_
        simp [go_sem, weldV, noMesh, Mesh.enc, Mesh.cs, vsV, tsV, hz]
        refine ACall_is ha ?_
        simp [go_sem, law09_WeldFirst.r]
      have he : weldR m = (m.weldM, (m.verts.length : Int) - m.wverts.length, 0) := by simp [weldR, hz]
      have hwz := weld_check hz
      have hcz := cleanM_check hz
      have hc1 := hc m.weldM
      have he1 : cleanR m.weldM = (m.weldM.cleanM, (((cleanL m.deg m.tris).deg : Nat) : Int), (((cleanL m.deg m.tris).twin : Nat) : Int), 0) := by unfold cleanR; rw [if_pos hwz, clean_weld hz hn]
      rw [he1] at hc1
      have hc2 := hc m
      have he2 : cleanR m = (m.cleanM, (((cleanL m.deg m.tris).deg : Nat) : Int), (((cleanL m.deg m.tris).twin : Nat) : Int), 0) := by simp [cleanR, hz]
      rw [he2] at hc2
      have hw2 := hw m.cleanM
      have he3 : weldR m.cleanM = (m.cleanM.weldM, (m.cleanM.verts.length : Int) - m.cleanM.wverts.length, 0) := by simp [weldR, hcz]
      rw [he3] at hw2
      have hl1 : m.weldM.cleanM.tris.length = (cleanL m.deg m.tris).out.length := by simp only [Mesh.cleanM]; rw [clean_weld hz hn]; simp
      have hl2 : m.cleanM.weldM.tris.length = (cleanL m.deg m.tris).out.length := by show (m.cleanM.tris.map _).length = _; rw [List.length_map]; rfl
      have hl3 := (cleanL_ok m.deg m.tris).sub.length_le
      have hk1 := hk m.weldM.cleanM m.cleanM.weldM (by omega) (cleanM_check hwz) (weld_check hcz) (fun k t h => first_cor hz hn h)
      rw [he]
      generalize cleanL m.deg m.tris = s at *
      generalize m.weldM.cleanM = b at *
      generalize m.cleanM.weldM = d at *
      generalize m.cleanM = c at *
      generalize m.weldM = a at *
      simp only [Mesh.enc, Mesh.cs, vsV, tsV, cleanV, weldV] at hc1 hc2 hw2 hk1
      simp [go_sem, weldV, Mesh.enc, Mesh.cs, vsV, tsV, hz]
      refine ACall_is hc1 ?_
      simp [go_sem]
      refine ACall_is hc2 ?_
      simp [go_sem]
      refine ACall_is hw2 ?_
      simp [go_sem, hl1, hl2]
      refine ACall_is hk1 ?_
      simp [go_sem]
      refine ACall_is ha ?_
      simp [go_sem, law09_WeldFirst.r]
    · have hlt : k < m.verts.length := by omega
      have hp : m.verts[k]? = some m.verts[k] := List.getElem?_eq_getElem hlt
      generalize m.verts[k] = v at hp
      obtain ⟨_, hp'⟩ := List.getElem?_eq_some_iff.1 hp
      simp [go_sem, Mesh.cs, vsV, tsV, hlt]
      refine AS_loop (α := Nat) (fun j => j ≤ k ∧ ∀ (i : Nat) (b : V3), i < j → m.verts[i]? = some b → v ≠ b)
        (fun j => ⟨[(1, .p 0 1 0 0), (3, .i .i64 k), (4, .i .i64 j)], [.arr 1 2 [m.cs]]⟩) (fun j => k - j) 0 ⟨Nat.zero_le _, fun i b h => by omega⟩ ?_ ?_
      · simp [go_sem, Mesh.cs, vsV, tsV]
      · rintro j ⟨hj, hd2⟩
        by_cases hjk : j = k
        · subst hjk
          simp (disch := omega) [go_sem, Mesh.cs, vsV, tsV, wrap64_small]
          refine ⟨j + 1, ⟨by omega, ?_⟩, by omega, rfl⟩
          intro i i' a b hi hii ha' hb'
          by_cases hij : i = j
          · subst hij
            rw [hp] at ha'
            obtain rfl := Option.some.inj ha'
            exact hd2 i' b hii hb'
          · exact hd i i' a b (by omega) hii ha' hb'
        · have hjt : j < k := by omega
          have hjl : j < m.verts.length := by omega
          have hq : m.verts[j]? = some m.verts[j] := List.getElem?_eq_getElem hjl
          generalize m.verts[j] = u at hq
          obtain ⟨_, hq'⟩ := List.getElem?_eq_some_iff.1 hq
          have hne := v3_ne v u
          by_cases hvu : v = u
          · rw [decide_eq_true hvu] at hne
            simp (disch := omega) [go_sem, Mesh.cs, vsV, tsV, hlt, hjt, hjl, hp, hp', hq, hq', vcs, wrap64_small, ← hne]
            refine ACall_is ha ?_
            simp [go_sem, law09_WeldFirst.r]
          · rw [decide_eq_false hvu] at hne
            simp (disch := omega) [go_sem, Mesh.cs, vsV, tsV, hlt, hjt, hjl, hp, hp', hq, hq', vcs, wrap64_small, ← hne]
            refine ⟨j + 1, ⟨by omega, ?_⟩, by omega, rfl⟩
            intro i b hi hb
            by_cases hij : i = j
            · subst hij
              rw [hq] at hb
              obtain rfl := Option.some.inj hb
              exact hvu
            · exact hd2 i b (by omega) hb
end
end Go.Abs

