/- The statement on what welding keeps, by values. -/
import Derived.Test.YtkefjgfcbcpcbaaGoWeK
import Derived.Test.YtkefjgfcbcpcbaaGoBl
set_option linter.unusedVariables false
set_option linter.unusedSimpArgs false
namespace Go.Abs

theorem weldR_weld {m : Mesh} (h : m.check = 0) : weldR m.weldM = (m.weldM, 0, 0) := by
  unfold weldR
  rw [if_pos (weld_check h), weld_weld h]
  have : m.weldM.wverts = m.weldM.verts := by
    have := weld_weld h
    exact congrArg Mesh.verts this
  rw [this]; simp

section
variable {P : Program} (hm : P.follows .mixedOrders = true)
include hm

set_option maxRecDepth 20000 in
set_option maxHeartbeats 4000000 in
theorem WeldKeeps_ok {f ff fw fa fc fk fl fs : FuncId} (hf : FnOk P f (law09_WeldKeeps.c ff fw fa fc fk fl fs) law09_WeldKeeps.r law09_WeldKeeps.n) (hff : FewC P ff) (hw : WeldC P fw) (ha : AwakeC P fa) (hc : CheckC P fc) (hk : CornersC P fk) (hl : LessC P fl) (hs : SameWC P fs)
    (m : Mesh) (h1 : m.verts.length ≤ 9223372036854775807) (h2 : m.tris.length ≤ 9223372036854775807) : PureC P f [m.enc] (· = .b true) := by
  refine pure_of hm hf (Nat.le_of_ble_eq_true rfl) ?_
  unfold law09_WeldKeeps.c
  simp [go_sem, Mesh.enc, Mesh.cs]
  refine ACall_is (hff m h1 h2) ?_
  have hl0 := few_len m
  generalize m.few = m at hl0
  have hw1 := hw m
  simp [go_sem, Mesh.enc, Mesh.cs]
  refine ACall_is hw1 ?_
  by_cases hz : m.check = 0
  case neg =>
    have he : weldR m = (noMesh, 0, m.check) := by simp [weldR, hz]
    rw [he]
    simp [go_sem, weldV, noMesh, Mesh.enc, Mesh.cs, vsV, tsV, hz]
    refine ACall_is ha ?_
    simp [go_sem, law09_WeldKeeps.r]
  have he : weldR m = (m.weldM, (m.verts.length : Int) - m.wverts.length, 0) := by simp [weldR, hz]
  rw [he]
  have hwl := wverts_len hz
  have hwz := weld_check hz
  have hw2 := hw m.weldM
  rw [weldR_weld hz] at hw2
  have hc2 := hc m.weldM
  rw [hwz] at hc2
  have hs2 := hs m.weldM (by show m.wverts.length ≤ _; omega) (by show (m.tris.map _).length ≤ _; simp; omega)
  have htl : m.weldM.tris.length = m.tris.length := by simp [Mesh.weldM]
  have hvl : m.weldM.verts.length = m.wverts.length := rfl
  have hasc : m.weldM.verts.Pairwise V3.lt := wverts_asc m
  have hcor : ∀ (k : Nat) (t : T3), m.tris[k]? = some t → ∃ u, m.weldM.tris[k]? = some u ∧ m.cor t = m.weldM.cor u ∧ 0 ≤ u.a ∧ u.a < m.wverts.length ∧ 0 ≤ u.b ∧ u.b < m.wverts.length ∧ 0 ≤ u.c ∧ u.c < m.wverts.length := by
    intro k t h
    have hu : m.weldM.tris[k]? = some (wtri m m.wverts t) := by
      show (m.tris.map _)[k]? = _
      rw [List.getElem?_map, h]; rfl
    exact ⟨_, hu, (weld_cor (List.mem_of_getElem? h)).symm, tok hwz (List.mem_of_getElem? hu)⟩
  have hhit : ∀ i : Nat, i < m.wverts.length → ∃ u ∈ m.weldM.tris, u.a = i ∨ u.b = i ∨ u.c = i := by
    intro i hi
    have hg : m.wverts[i]? = some m.wverts[i] := List.getElem?_eq_getElem hi
    obtain ⟨t, ht, hv⟩ := mem_wverts.1 (List.getElem_mem hi)
    have hn := ascG_nodup V3.ltO (wverts_asc m)
    refine ⟨wtri m m.wverts t, List.mem_map.2 ⟨t, ht, rfl⟩, ?_⟩
    have hix := idxV_of_get hn hg
    simp only [Mesh.cor, List.mem_cons, List.not_mem_nil, or_false] at hv
    rcases hv with hv | hv | hv <;> rw [hv] at hix
    · exact .inl hix
    · exact .inr (.inl hix)
    · exact .inr (.inr hix)
  generalize hW : m.wverts.length = n at *
  generalize m.weldM = w at *
  simp only [Mesh.enc, Mesh.cs, vsV, tsV, weldV] at hc2 hs2 hw2
  simp (disch := omega) [go_sem, weldV, Mesh.enc, Mesh.cs, vsV, tsV, htl, hvl, wrap64_small]
  refine ACall_is hc2 ?_
  simp (disch := omega) [go_sem, Mesh.enc, Mesh.cs, vsV, tsV, htl, hvl, wrap64_small, bl_rep]
  refine ⟨⟨by omega, by omega⟩, ?_⟩
  refine AS_loop (α := Nat × (Nat → Bool)) (fun p => p.1 ≤ m.tris.length ∧ ∀ (k : Nat) (u : T3), k < p.1 → w.tris[k]? = some u → p.2 u.a.toNat = true ∧ p.2 u.b.toNat = true ∧ p.2 u.c.toNat = true)
    (fun p => ⟨[(1, .p 0 1 0 0), (3, .p 1 1 0 0), (6, .own 2 1 0 n), (7, .i .i64 p.1)], [.arr 1 2 [m.cs], .arr 1 2 [w.cs], .arr 1 1 (bl n p.2)]⟩)
    (fun p => m.tris.length - p.1) (0, fun _ => false) ⟨Nat.zero_le _, fun k u h => by omega⟩ ?_ ?_
  · simp [go_sem, Mesh.cs, vsV, tsV, bl_cl]
    exact bl_cl _ _ _
  · rintro ⟨k, g⟩ ⟨hk1, hg⟩
    simp only at hk1 hg ⊢
    by_cases hkl : k = m.tris.length
    · subst hkl
      have hall : ∀ i, i < n → g i = true := by
        intro i hi
        obtain ⟨u, hu, hui⟩ := hhit i hi
        obtain ⟨k, hk⟩ := List.getElem?_of_mem hu
        have hlt := (List.getElem?_eq_some_iff.1 hk).1
        obtain ⟨q1, q2, q3⟩ := hg k u (by omega) hk
        rcases hui with h | h | h
        · rw [h] at q1; simpa using q1
        · rw [h] at q2; simpa using q2
        · rw [h] at q3; simpa using q3
      simp [go_sem, Mesh.cs, vsV, tsV]
      refine AS_loop (α := Nat) (fun i => i ≤ n)
        (fun i => ⟨[(1, .p 0 1 0 0), (3, .p 1 1 0 0), (6, .own 2 1 0 n), (16, .i .i64 i)], [.arr 1 2 [m.cs], .arr 1 2 [w.cs], .arr 1 1 (bl n g)]⟩)
        (fun i => n - i) 0 (Nat.zero_le _) ?_ ?_
      · simp [go_sem, Mesh.cs, vsV, tsV, bl_cl]
        exact bl_cl _ _ _
      · intro i hi
        by_cases hin : i = n
        · subst hin
          simp [go_sem, Mesh.cs, vsV, tsV, hvl]
          refine ACall_is hw2 ?_
          simp [go_sem, Mesh.cs, vsV, tsV, hvl]
          refine ACall_is hs2 ?_
          simp [go_sem, Mesh.cs, vsV, tsV, hvl]
          refine ACall_is ha ?_
          simp [go_sem, law09_WeldKeeps.r]
        · have hlt : i < n := by omega
          have hgi := hall i hlt
          have hbl := bl_len n g
          have hbg := bl_get (g := g) hlt
          rw [hgi] at hbg
          obtain ⟨_, hbg'⟩ := List.getElem?_eq_some_iff.1 hbg
          cases i with
          | zero =>
            simp (disch := omega) [go_sem, Mesh.cs, vsV, tsV, hvl, hlt, hbg, hbg', hbl, wrap64_small]
            exact ⟨1, by omega, by omega, by simp, bl_cl _ _ _⟩
          | succ i =>
            have hp : w.verts[i]? = some w.verts[i] := List.getElem?_eq_getElem (by omega)
            have hq : w.verts[i + 1]? = some w.verts[i + 1] := List.getElem?_eq_getElem (by omega)
            have hlt2 := List.pairwise_iff_getElem.1 hasc i (i + 1) (by omega) (by omega) (by omega)
            generalize w.verts[i] = x at hp hlt2
            generalize w.verts[i + 1] = y at hq hlt2
            obtain ⟨_, hp'⟩ := List.getElem?_eq_some_iff.1 hp
            obtain ⟨_, hq'⟩ := List.getElem?_eq_some_iff.1 hq
            have hl1 := hl x y
            rw [decide_eq_true hlt2] at hl1
            simp only [V3.enc, vcs] at hl1
            simp (disch := omega) [go_sem, Mesh.cs, vsV, tsV, hvl, hlt, show ((i : Int) + 1 < n) by omega, show (0 ≤ (i : Int) + 1) by omega, hbg, hbg', hbl, hp, hp', hq, hq', vcs, wrap64_small]
            refine DCall_is hl1 ?_
            simp (disch := omega) [go_sem, Mesh.cs, vsV, tsV, wrap64_small]
            exact ⟨i + 2, by omega, by omega, by simp; omega, bl_cl _ _ _⟩
    · have hlt : k < m.tris.length := by omega
      have hp : m.tris[k]? = some m.tris[k] := List.getElem?_eq_getElem hlt
      generalize m.tris[k] = t at hp
      obtain ⟨u, hu, hcr, u1, u2, u3, u4, u5, u6⟩ := hcor k t hp
      obtain ⟨_, hu'⟩ := List.getElem?_eq_some_iff.1 hu
      simp only [Mesh.cor, List.cons.injEq, and_true] at hcr
      obtain ⟨c1, c2, c3⟩ := hcr
      have hk1 := hk m k
      rw [corners_get hz hp, c1, c2, c3] at hk1
      have hk2 := hk w k
      rw [corners_get hwz hu] at hk2
      simp only [Mesh.enc, Mesh.cs, vsV, tsV, V3.enc, vcs] at hk1 hk2
      have hbl := fun g => bl_len n g
      simp [go_sem, Mesh.cs, vsV, tsV, hlt]
      refine ACall_is hk1 ?_
      simp [go_sem, V3.enc, vcs]
      refine ACall_is hk2 ?_
      simp (maxSteps := 1000000) (disch := omega) [go_sem, V3.enc, vcs, tcs, wrap64_small, hu, hu', htl, hlt, hbl, u1, u2, u3, u4, u5, u6, show u.a.toNat < n by omega, show u.b.toNat < n by omega, show u.c.toNat < n by omega, bl_set, bl_gete, bl_get]
      refine ⟨k + 1, _, ⟨by omega, ?_⟩, by omega, by simp, rfl, bl_cl _ _ _⟩
      intro k' u' hk' hu2
      by_cases hkk : k' = k
      · subst hkk
        rw [hu] at hu2
        obtain rfl := Option.some.inj hu2
        simp
      · obtain ⟨q1, q2, q3⟩ := hg k' u' (by omega) hu2
        simp [q1, q2, q3]
end
end Go.Abs

