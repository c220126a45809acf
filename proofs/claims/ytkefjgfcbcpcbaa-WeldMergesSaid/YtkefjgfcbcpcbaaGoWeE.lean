/- The statements on welding, by values. -/
import Derived.Test.YtkefjgfcbcpcbaaGoWeD
set_option linter.unusedVariables false
set_option linter.unusedSimpArgs false
namespace Go.Abs

def Mesh.few (m : Mesh) : Mesh := ⟨m.verts.take 60, m.tris.take 40⟩
def FewC (P : Program) (f : FuncId) : Prop := ∀ m : Mesh, m.verts.length ≤ 9223372036854775807 → m.tris.length ≤ 9223372036854775807 → CallIs P f [m.enc] m.few.enc
def SameWC (P : Program) (f : FuncId) : Prop := ∀ m : Mesh, m.verts.length ≤ 1000000 → m.tris.length ≤ 1000000 → CallIs P f [m.enc, m.enc] (.b true)

def awM : Mesh := ⟨[⟨1, 0, 0⟩, ⟨0, 0, 0⟩, ⟨0, 1, 0⟩, ⟨0, 0, 0⟩, ⟨9, 9, 9⟩], [⟨0, 2, 3⟩]⟩
theorem awM_weld : weldR awM = (⟨[⟨0, 0, 0⟩, ⟨0, 1, 0⟩, ⟨1, 0, 0⟩], [⟨2, 1, 0⟩]⟩, 2, 0) := by decide +kernel
theorem few_len (m : Mesh) : m.few.verts.length ≤ 60 ∧ m.few.tris.length ≤ 40 := by simp [Mesh.few]; omega
theorem weldR_len (m : Mesh) (hv : m.verts.length ≤ 60) (ht : m.tris.length ≤ 40) : (weldR m).1.verts.length ≤ 60 ∧ (weldR m).1.tris.length ≤ 40 := by
  unfold weldR
  split
  · rename_i hz
    have := wverts_len hz
    simp [Mesh.weldM]; omega
  · simp [noMesh]

section
variable {P : Program} (hm : P.follows .mixedOrders = true)
include hm

theorem law09_few_ok {f : FuncId} (hf : FnOk P f law09_few.c law09_few.r law09_few.n) : FewC P f := by
  intro m h1 h2
  refine PureC.is (pure_of hm hf (Nat.le_of_ble_eq_true rfl) ?_) rfl
  unfold law09_few.c
  by_cases c1 : (60 : Int) < m.verts.length <;> by_cases c2 : (40 : Int) < m.tris.length
  · have e1 : 60 ≤ m.verts.length := by omega
    have e2 : 40 ≤ m.tris.length := by omega
    simp [go_sem, Mesh.enc, Mesh.cs, vsV, tsV, c1, c2, e1, e2, law09_few.r, Mesh.few, List.map_take]
  · have e1 : 60 ≤ m.verts.length := by omega
    have e2 : m.tris.take 40 = m.tris := List.take_of_length_le (by omega)
    simp [go_sem, Mesh.enc, Mesh.cs, vsV, tsV, c1, c2, e1, e2, law09_few.r, Mesh.few, List.map_take]
  · have e1 : m.verts.take 60 = m.verts := List.take_of_length_le (by omega)
    have e2 : 40 ≤ m.tris.length := by omega
    simp [go_sem, Mesh.enc, Mesh.cs, vsV, tsV, c1, c2, e1, e2, law09_few.r, Mesh.few, List.map_take]
  · have e1 : m.verts.take 60 = m.verts := List.take_of_length_le (by omega)
    have e2 : m.tris.take 40 = m.tris := List.take_of_length_le (by omega)
    simp [go_sem, Mesh.enc, Mesh.cs, vsV, tsV, c1, c2, e1, e2, law09_few.r, Mesh.few, List.map_take]

set_option maxHeartbeats 1000000 in
theorem law09_same_ok {f : FuncId} (hf : FnOk P f law09_same.c law09_same.r law09_same.n) : SameWC P f := by
  intro m h1 h2
  refine PureC.is (pure_of hm hf (Nat.le_of_ble_eq_true rfl) ?_) rfl
  unfold law09_same.c
  simp [go_sem, Mesh.enc, Mesh.cs, vsV, tsV]
  refine AS_loop (α := Nat) (fun k => k ≤ m.verts.length) (fun k => ⟨[(2, .p 0 1 0 0), (3, .p 1 1 0 0), (5, .i .i64 k)], [.arr 1 2 [m.cs], .arr 1 2 [m.cs]]⟩) (fun k => m.verts.length - k) 0 (Nat.zero_le _) ?_ ?_
  · simp [go_sem, Mesh.cs, vsV, tsV]
  · intro k hk
    by_cases hkl : k = m.verts.length
    · subst hkl
      simp [go_sem, Mesh.cs, vsV, tsV]
      refine AS_loop (α := Nat) (fun k => k ≤ m.tris.length) (fun k => ⟨[(2, .p 0 1 0 0), (3, .p 1 1 0 0), (6, .i .i64 k)], [.arr 1 2 [m.cs], .arr 1 2 [m.cs]]⟩) (fun k => m.tris.length - k) 0 (Nat.zero_le _) ?_ ?_
      · simp [go_sem, Mesh.cs, vsV, tsV]
      · intro j hj
        by_cases hjl : j = m.tris.length
        · subst hjl
          simp [go_sem, Mesh.cs, vsV, tsV, law09_same.r]
        · have hlt : j < m.tris.length := by omega
          have hp : m.tris[j]? = some m.tris[j] := List.getElem?_eq_getElem hlt
          generalize m.tris[j] = t at hp
          obtain ⟨_, hp'⟩ := List.getElem?_eq_some_iff.1 hp
          simp (disch := omega) [go_sem, Mesh.cs, vsV, tsV, hlt, hp, hp', tcs, wrap64_small]
          exact ⟨j + 1, by omega, by omega, rfl⟩
    · have hlt : k < m.verts.length := by omega
      have hp : m.verts[k]? = some m.verts[k] := List.getElem?_eq_getElem hlt
      generalize m.verts[k] = v at hp
      obtain ⟨_, hp'⟩ := List.getElem?_eq_some_iff.1 hp
      simp (disch := omega) [go_sem, Mesh.cs, vsV, tsV, hlt, hp, hp', vcs, wrap64_small]
      exact ⟨k + 1, by omega, by omega, rfl⟩

theorem law09_awake_ok {f fw : FuncId} (hf : FnOk P f (law09_awake.c fw) law09_awake.r law09_awake.n) (hw : WeldC P fw) : AwakeC P f := by
  refine PureC.is (pure_of hm hf (Nat.le_of_ble_eq_true rfl) ?_) rfl
  unfold law09_awake.c
  have h := hw awM
  rw [awM_weld] at h
  simp [go_sem]
  refine ACall_frz (vs := [awM.enc]) ?_ h ?_
  · simp [go_sem, frzAll, awM, Mesh.enc, Mesh.cs, vsV, tsV, V3.cs, T3.cs, V.isD]
  · simp [go_sem, weldV, Mesh.enc, Mesh.cs, vsV, tsV, V3.cs, T3.cs, law09_awake.r]

theorem WeldMerges_ok {f ff fw fr fs fa : FuncId} (hf : FnOk P f (law09_WeldMerges.c ff fw fr fs fa) law09_WeldMerges.r law09_WeldMerges.n) (hff : FewC P ff) (hw : WeldC P fw) (hr : WeldC P fr) (hs : SameWC P fs) (ha : AwakeC P fa)
    (m : Mesh) (h1 : m.verts.length ≤ 9223372036854775807) (h2 : m.tris.length ≤ 9223372036854775807) : PureC P f [m.enc] (· = .b true) := by
  refine pure_of hm hf (Nat.le_of_ble_eq_true rfl) ?_
  unfold law09_WeldMerges.c
  simp [go_sem, Mesh.enc, Mesh.cs]
  refine ACall_is (hff m h1 h2) ?_
  have hl := few_len m
  generalize m.few = m at hl
  have hwl := weldR_len m hl.1 hl.2
  have hw1 := hw m
  have hr1 := hr m
  have hs1 := hs (weldR m).1 (by omega) (by omega)
  generalize weldR m = r at hw1 hr1 hs1
  simp only [Mesh.enc, Mesh.cs] at hw1 hr1 hs1
  simp [go_sem, Mesh.enc, Mesh.cs]
  refine ACall_is hw1 ?_
  simp [go_sem, weldV, Mesh.enc, Mesh.cs]
  refine ACall_is hr1 ?_
  simp [go_sem, weldV, Mesh.enc, Mesh.cs]
  refine ACall_is hs1 ?_
  simp [go_sem]
  refine ACall_is ha ?_
  simp [go_sem, law09_WeldMerges.r]
end
end Go.Abs

