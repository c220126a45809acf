/- The statements on holes, by values. -/
import Derived.Test.YtahpclonmobkiaaGoHs
import Derived.Test.YtahpclonmobkiaaGoShpB
set_option linter.unusedVariables false
set_option linter.unusedSimpArgs false
namespace Go.Abs

def Mesh.fewH (m : Mesh) : Mesh := ⟨m.verts.take 60, m.tris.take 40⟩
def FewHC (P : Program) (f : FuncId) : Prop := ∀ m : Mesh, m.verts.length ≤ 9223372036854775807 → m.tris.length ≤ 9223372036854775807 → CallIs P f [m.enc] m.fewH.enc
theorem fewH_len (m : Mesh) : m.fewH.verts.length ≤ 60 ∧ m.fewH.tris.length ≤ 40 := by simp [Mesh.fewH]; omega
theorem fillR_len {m : Mesh} (hv : m.verts.length ≤ 60) (ht : m.tris.length ≤ 40) : (fillR m).1.verts.length ≤ 60 ∧ (fillR m).1.tris.length ≤ 4096 := by
  rw [fillR_few ht]
  split
  · rename_i h
    have := fill_len h
    have := border_len3 m
    exact ⟨hv, by simp only; omega⟩
  · simp [noMesh]

section
variable {P : Program} (hm : P.follows .mixedOrders = true)
include hm

theorem law12_few_ok {f : FuncId} (hf : FnOk P f law12_few.c law12_few.r law12_few.n) : FewHC P f := by
  intro m h1 h2
  refine PureC.is (pure_of hm hf (Nat.le_of_ble_eq_true rfl) ?_) rfl
  unfold law12_few.c
  by_cases c1 : (60 : Int) < m.verts.length <;> by_cases c2 : (40 : Int) < m.tris.length
  · have e1 : 60 ≤ m.verts.length := by omega
    have e2 : 40 ≤ m.tris.length := by omega
    simp [go_sem, Mesh.enc, Mesh.cs, vsV, tsV, c1, c2, e1, e2, law12_few.r, Mesh.fewH, List.map_take]
  · have e1 : 60 ≤ m.verts.length := by omega
    have e2 : m.tris.take 40 = m.tris := List.take_of_length_le (by omega)
    simp [go_sem, Mesh.enc, Mesh.cs, vsV, tsV, c1, c2, e1, e2, law12_few.r, Mesh.fewH, List.map_take]
  · have e1 : m.verts.take 60 = m.verts := List.take_of_length_le (by omega)
    have e2 : 40 ≤ m.tris.length := by omega
    simp [go_sem, Mesh.enc, Mesh.cs, vsV, tsV, c1, c2, e1, e2, law12_few.r, Mesh.fewH, List.map_take]
  · have e1 : m.verts.take 60 = m.verts := List.take_of_length_le (by omega)
    have e2 : m.tris.take 40 = m.tris := List.take_of_length_le (by omega)
    simp [go_sem, Mesh.enc, Mesh.cs, vsV, tsV, c1, c2, e1, e2, law12_few.r, Mesh.fewH, List.map_take]


theorem HolesFills_ok {f ff fp fr fs fa : FuncId} (hf : FnOk P f (law12_HolesFills.c ff fp fr fs fa) law12_HolesFills.r law12_HolesFills.n) (hff : FewHC P ff) (hp : FillC P fp) (hr : FillC P fr) (hs : SameMC P fs) (ha : AwakeC P fa)
    (m : Mesh) (h1 : m.verts.length ≤ 9223372036854775807) (h2 : m.tris.length ≤ 9223372036854775807) : PureC P f [m.enc] (· = .b true) := by
  refine pure_of hm hf (Nat.le_of_ble_eq_true rfl) ?_
  unfold law12_HolesFills.c
  simp [go_sem, Mesh.enc, Mesh.cs]
  refine ACall_is (hff m h1 h2) ?_
  have hl := fewH_len m
  generalize m.fewH = m at hl
  have hwl := fillR_len hl.1 hl.2
  have hw1 := hp m
  have hr1 := hr m
  have hs1 := hs (fillR m).1 (by omega) (by omega)
  generalize fillR m = r at hw1 hr1 hs1
  simp only [Mesh.enc, Mesh.cs] at hw1 hr1 hs1
  simp [go_sem, Mesh.enc, Mesh.cs]
  refine ACall_is hw1 ?_
  simp [go_sem, fillV, Mesh.enc, Mesh.cs]
  refine ACall_is hr1 ?_
  simp [go_sem, fillV, Mesh.enc, Mesh.cs]
  refine ACall_is hs1 ?_
  simp [go_sem]
  refine ACall_is ha ?_
  simp [go_sem, law12_HolesFills.r]

set_option maxHeartbeats 2000000 in
theorem HolesLoops_ok {f ff fp fl fc fa : FuncId} (hf : FnOk P f (law12_HolesLoops.c ff fp fl fc fa) law12_HolesLoops.r law12_HolesLoops.n) (hff : FewHC P ff) (hp : FillC P fp) (hl : LoopsC P fl) (hc : CheckC P fc) (ha : AwakeC P fa)
    (m : Mesh) (h1 : m.verts.length ≤ 9223372036854775807) (h2 : m.tris.length ≤ 9223372036854775807) : PureC P f [m.enc] (· = .b true) := by
  refine pure_of hm hf (Nat.le_of_ble_eq_true rfl) ?_
  unfold law12_HolesLoops.c
  simp [go_sem, Mesh.enc, Mesh.cs]
  refine ACall_is (hff m h1 h2) ?_
  have hl0 := fewH_len m
  generalize m.fewH = m at hl0
  have hw1 := hp m
  rw [fillR_few hl0.2] at hw1
  have hl1 := hl m
  have hc1 := hc m
  simp only [Mesh.enc, Mesh.cs] at hw1 hl1 hc1
  simp [go_sem, Mesh.enc, Mesh.cs]
  refine ACall_is hw1 ?_
  by_cases h0 : m.loops.2 = 0
  case neg =>
    rw [if_neg h0]
    by_cases hz : m.check = 0
    · simp [go_sem, fillV, noMesh, Mesh.enc, Mesh.cs, vsV, tsV]
      refine ACall_is hl1 ?_
      simp [go_sem]
      refine ACall_is hc1 ?_
      have hb : (m.loops.2 != 0) = true := by simpa using h0
      simp [go_sem, hz, h0, hb]
      refine ACall_is ha ?_
      simp [go_sem, law12_HolesLoops.r]
    · simp [go_sem, fillV, noMesh, Mesh.enc, Mesh.cs, vsV, tsV]
      refine ACall_is hl1 ?_
      simp [go_sem]
      refine ACall_is hc1 ?_
      have hb : (m.loops.2 != 0) = true := by simpa using h0
      have hb2 : (m.check != 0) = true := by simpa using hz
      simp [go_sem, hz, h0, hb, hb2]
      refine ACall_is ha ?_
      simp [go_sem, law12_HolesLoops.r]
  rw [if_pos h0]
  obtain ⟨hz, hs, hls⟩ := loops_ok h0
  have hlong : ∀ w ∈ m.loops.1, 3 ≤ w.length := by rw [hls]; exact loops_long hz hs
  have hnum := loops_num h0
  have hea := loops_each h0
  rw [h0] at hl1
  rw [hz] at hc1
  generalize m.fillM = a at *
  generalize m.loops.1 = ls at *
  simp [go_sem, fillV, Mesh.enc, Mesh.cs, vsV, tsV]
  refine ACall_is hl1 ?_
  simp [go_sem]
  refine ACall_is hc1 ?_
  simp [go_sem, lsV]
  refine AS_loop (α := Nat) (fun k => k ≤ ls.length) (fun k => ⟨[(4, .i .i64 ls.length), (5, .i .i64 0), (6, lsV ls), (8, .i .i64 k)], []⟩) (fun k => ls.length - k) 0 (Nat.zero_le _) ?_ ?_
  · simp [go_sem, lsV]
  · intro k hk
    by_cases hkl : k = ls.length
    · subst hkl
      simp [go_sem, lsV]
      refine ACall_is ha ?_
      simp [go_sem, law12_HolesLoops.r]
    · have hlt : k < ls.length := by omega
      have hq : ls[k]? = some ls[k] := List.getElem?_eq_getElem hlt
      have h3 := hlong _ (List.getElem_mem hlt)
      have h4 := hea _ (List.getElem_mem hlt)
      generalize ls[k] = w at hq h3 h4
      obtain ⟨_, hq'⟩ := List.getElem?_eq_some_iff.1 hq
      simp (disch := omega) [go_sem, lsV, hlt, hq, hq', isV, wrap64_small, show ¬ ((w.length : Int) < 3) by omega]
      exact ⟨k + 1, by omega, by omega, by simp⟩

set_option maxHeartbeats 2000000 in
theorem HolesClose_ok {f ff fp fa fc fd fs : FuncId} (hf : FnOk P f (law12_HolesClose.c ff fp fa fc fd fs) law12_HolesClose.r law12_HolesClose.n) (hff : FewHC P ff) (hp : FillC P fp) (ha : AwakeC P fa) (hc : ClosedC P fc) (hd : ClosedC P fd) (hs : SameMC P fs)
    (m : Mesh) (h1 : m.verts.length ≤ 9223372036854775807) (h2 : m.tris.length ≤ 9223372036854775807) : PureC P f [m.enc] (· = .b true) := by
  refine pure_of hm hf (Nat.le_of_ble_eq_true rfl) ?_
  unfold law12_HolesClose.c
  simp [go_sem, Mesh.enc, Mesh.cs]
  refine ACall_is (hff m h1 h2) ?_
  have hl0 := fewH_len m
  generalize m.fewH = m at hl0
  have hw1 := hp m
  rw [fillR_few hl0.2] at hw1
  simp [go_sem]
  refine ACall_is hw1 ?_
  by_cases h0 : m.loops.2 = 0
  case neg =>
    rw [if_neg h0]
    have hb : (m.loops.2 != 0) = true := by simpa using h0
    simp [go_sem, fillV, noMesh, Mesh.enc, Mesh.cs, vsV, tsV, h0, hb]
    refine ACall_is ha ?_
    simp [go_sem, law12_HolesClose.r]
  rw [if_pos h0]
  have hfl := fill_len h0
  have hbl := border_len3 m
  have hfv : m.fillM.verts.length = m.verts.length := rfl
  have hw2 := hp m.fillM
  rw [fill_fill h0 (by omega)] at hw2
  have hcl : m.fillM.closed = true := by
    simp [Mesh.closed, fill_check h0 (show m.fillM.tris.length ≤ 4096 by omega), fill_border h0 (show m.fillM.tris.length ≤ 4096 by omega)]
  have hc1 := hc m.fillM
  have hd1 := hd m.fillM
  rw [hcl] at hc1 hd1
  have hs1 := hs m.fillM (by omega) (by omega)
  generalize m.fillM = a at *
  simp only [Mesh.enc, Mesh.cs] at hw2 hc1 hd1 hs1
  simp [go_sem, fillV, Mesh.enc, Mesh.cs]
  refine ACall_is hw2 ?_
  simp [go_sem, fillV, Mesh.enc, Mesh.cs]
  refine ACall_is hc1 ?_
  simp [go_sem]
  refine ACall_is hd1 ?_
  simp [go_sem]
  refine ACall_is hs1 ?_
  simp [go_sem]
  refine ACall_is ha ?_
  simp [go_sem, law12_HolesClose.r]

set_option maxHeartbeats 4000000 in
theorem HolesKeeps_ok {f ff fp fo fa fb fu fr : FuncId} (hf : FnOk P f (law12_HolesKeeps.c ff fp fo fa fb fu fr) law12_HolesKeeps.r law12_HolesKeeps.n) (hff : FewHC P ff) (hp : FillC P fp) (ho : CoherentC P fo) (ha : AwakeC P fa) (hb : BoundaryC P fb) (hu : UsesC P fu) (hr : CoherentC P fr)
    (m : Mesh) (h1 : m.verts.length ≤ 9223372036854775807) (h2 : m.tris.length ≤ 9223372036854775807) : PureC P f [m.enc] (· = .b true) := by
  refine pure_of hm hf (Nat.le_of_ble_eq_true rfl) ?_
  unfold law12_HolesKeeps.c
  simp [go_sem, Mesh.enc, Mesh.cs]
  refine ACall_is (hff m h1 h2) ?_
  have hl0 := fewH_len m
  generalize m.fewH = m at hl0
  have hw1 := hp m
  rw [fillR_few hl0.2] at hw1
  have ho1 := ho m
  have hb1 := hb m
  have hr1 := hr m
  simp only [Mesh.enc, Mesh.cs] at hw1 ho1 hb1 hr1
  simp [go_sem, Mesh.enc, Mesh.cs]
  refine ACall_is hw1 ?_
  by_cases h0 : m.loops.2 = 0
  case neg =>
    rw [if_neg h0]
    have hb : (m.loops.2 != 0) = true := by simpa using h0
    simp [go_sem, fillV, noMesh, Mesh.enc, Mesh.cs, vsV, tsV, h0, hb]
    refine ACall_is ha ?_
    simp [go_sem, law12_HolesKeeps.r]
  rw [if_pos h0]
  cases hco : m.coh
  · rw [hco] at ho1
    simp [go_sem, fillV, Mesh.enc, Mesh.cs]
    refine ACall_is ho1 ?_
    simp [go_sem]
    refine ACall_is ha ?_
    simp [go_sem, law12_HolesKeeps.r]
  rw [hco] at ho1 hr1
  obtain ⟨hz, hs, hls⟩ := loops_ok h0
  have hfl := fill_len h0
  have hbl := border_len3 m
  have hfc := fill_check h0 (show m.fillM.tris.length ≤ 4096 by omega)
  have hpre : ∃ r, m.fillM.tris = m.tris ++ r := ⟨_, rfl⟩
  have huse : ∀ e ∈ m.border, m.fillM.use e = m.fillM.use e.rev ∧ 1 ≤ m.fillM.use e := by
    intro e he
    have hn := fill_net h0 e
    have hu : ∀ e, m.fillM.use e = (alluses m.fillM.tris).count e := fun e => by simp [Mesh.use, hfc]
    have hu2 : ∀ e, m.use e = (alluses m.tris).count e := fun e => by simp [Mesh.use, hz]
    have h3 := simple_mem hs he
    obtain ⟨r, hr⟩ := hpre
    have h4 : (alluses m.tris).count e ≤ (alluses m.fillM.tris).count e := by
      rw [hr]; unfold alluses; rw [List.flatMap_append, List.count_append]; omega
    unfold net at hn
    rw [hu2] at h3
    rw [hu, hu]
    omega
  have hu1 := fun e => hu m.fillM e
  have hfv : m.fillM.verts.length = m.verts.length := rfl
  generalize m.fillM = a at *
  generalize m.border = l at *
  simp only [Mesh.enc, Mesh.cs] at hu1
  obtain ⟨r, hr⟩ := hpre
  have hal : a.tris.length = m.tris.length + r.length := by rw [hr, List.length_append]
  simp [go_sem, fillV, Mesh.enc, Mesh.cs]
  refine ACall_is ho1 ?_
  simp [go_sem, tsV, vsV, show ¬ (a.tris.length < m.tris.length) by omega]
  refine AS_loop (α := Nat) (fun k => k ≤ m.tris.length) (fun k => ⟨[(1, .p 0 1 0 0), (3, .p 1 1 0 0), (6, .i .i64 k)], [.arr 1 2 [m.cs], .arr 1 2 [a.cs]]⟩) (fun k => m.tris.length - k) 0 (Nat.zero_le _) ?_ ?_
  · simp [go_sem, Mesh.cs, vsV, tsV]
  · intro k hk
    by_cases hkl : k = m.tris.length
    · subst hkl
      simp [go_sem, Mesh.cs, vsV, tsV]
      refine ACall_is hb1 ?_
      simp [go_sem, psV]
      refine AS_loop (α := Nat) (fun k => k ≤ l.length) (fun k => ⟨[(1, .p 0 1 0 0), (3, .p 1 1 0 0), (7, psV l), (8, .i .i64 k)], [.arr 1 2 [m.cs], .arr 1 2 [a.cs]]⟩) (fun k => l.length - k) 0 (Nat.zero_le _) ?_ ?_
      · simp [go_sem, Mesh.cs, vsV, tsV, psV]
      · intro j hj
        by_cases hjl : j = l.length
        · subst hjl
          simp [go_sem, Mesh.cs, psV]
          refine ACall_is hr1 ?_
          simp [go_sem]
          refine ACall_is ha ?_
          simp [go_sem, law12_HolesKeeps.r]
        · have hjt : j < l.length := by omega
          have hq : l[j]? = some l[j] := List.getElem?_eq_getElem hjt
          have hue := huse _ (List.getElem_mem hjt)
          generalize l[j] = e at hq hue
          obtain ⟨_, hq'⟩ := List.getElem?_eq_some_iff.1 hq
          have hu2 := hu1 e
          rw [← hue.1] at hu2
          have hub := hue.2
          generalize a.use e = n at hu2 hub
          simp only [P2.enc, pcs] at hu2
          simp (disch := omega) [go_sem, Mesh.cs, psV, hjt, hq, hq', pcs]
          refine DCall_is hu2 ?_
          simp (disch := omega) [go_sem, Mesh.cs, psV, wrap64_small, show ¬ (n < 1) by omega]
          exact ⟨j + 1, by omega, by omega, by simp [vsV, tsV, V.cl, V.cl1, V.cl0]⟩
    · have hlt : k < m.tris.length := by omega
      have hp : m.tris[k]? = some m.tris[k] := List.getElem?_eq_getElem hlt
      have hq : a.tris[k]? = m.tris[k]? := by rw [hr, List.getElem?_append_left hlt]
      rw [hp] at hq
      generalize m.tris[k] = t at hp hq
      obtain ⟨_, hp'⟩ := List.getElem?_eq_some_iff.1 hp
      obtain ⟨_, hq'⟩ := List.getElem?_eq_some_iff.1 hq
      simp (disch := omega) [go_sem, Mesh.cs, vsV, tsV, hlt, hp, hp', hq, hq', tcs, wrap64_small, show k < a.tris.length by omega]
      exact ⟨k + 1, by omega, by omega, by simp⟩
end
end Go.Abs

