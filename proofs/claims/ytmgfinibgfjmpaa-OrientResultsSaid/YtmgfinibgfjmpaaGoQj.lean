/- The statements on Orient, by values. -/
import Derived.Test.YtmgfinibgfjmpaaGoQb
set_option linter.unusedVariables false
set_option linter.unusedSimpArgs false
namespace Go.Abs

/-- What Orient's result is. -/
theorem oriR_cases (m : Mesh) : ((oriR m).2.2 ≠ 0 ∧ oriR m = (⟨[], []⟩, 0, (oriR m).2.2) ∧ m.coh = false ∧ (m.check = 0 → (oriR m).2.2 = 13)) ∨ (m.check = 0 ∧ ∃ us, orientL m.tris = some us ∧ oriR m = (⟨m.verts, us⟩, (difN m.tris us : Int), 0)) := by
  by_cases hz : m.check = 0
  case neg =>
    have : oriR m = (⟨[], []⟩, 0, m.check) := by unfold oriR; rw [if_pos hz]
    rw [this]
    exact .inl ⟨hz, rfl, by unfold Mesh.coh; simp [hz], fun h => absurd h hz⟩
  cases h : orientL m.tris with
  | none =>
    rw [oriR_err hz h]
    refine .inl ⟨by simp, rfl, ?_, fun _ => rfl⟩
    unfold Mesh.coh
    cases hc : cohB m.tris with
    | false => simp
    | true =>
      obtain ⟨L, hL⟩ := lab_ex m.tris
      rw [orientL_some hL (good_self (cohB_iff.1 hc))] at h
      simp at h
  | some us => exact .inr ⟨hz, us, rfl, oriR_ok hz h⟩
theorem oriR_len {m : Mesh} (h : m.smallO = true) : (oriR m).1.verts.length ≤ 60 ∧ (oriR m).1.tris.length ≤ 40 := by
  have hl := smallO_len h
  rcases oriR_cases m with ⟨_, h1, _⟩ | ⟨_, us, h2, h1⟩
  · rw [h1]; simp
  · obtain ⟨L, hL⟩ := lab_ex m.tris
    have hul := (orientL_good hL h2).fl.len
    rw [h1]
    simp only
    omega
section
variable {P : Program} (hm : P.follows .mixedOrders = true)
include hm

theorem OrientResults_ok {f fs fa fo fr fe : FuncId} (hf : FnOk P f (law11_OrientResults.c fs fa fo fr fe) law11_OrientResults.r law11_OrientResults.n) (hs : SmallOC P fs) (ha : AwakeC P fa) (ho : OrientC P fo) (hr : OrientC P fr) (he : SameMC P fe)
    (m : Mesh) : PureC P f [m.enc] (· = .b true) := by
  refine pure_of hm hf (Nat.le_of_ble_eq_true rfl) ?_
  unfold law11_OrientResults.c
  have hs1 := hs m
  have ho1 := ho m
  have hr1 := hr m
  simp only [Mesh.enc, Mesh.cs] at hs1 ho1 hr1
  simp [go_sem, Mesh.enc, Mesh.cs]
  refine ACall_is hs1 ?_
  cases h : m.smallO
  · simp [go_sem]
    refine ACall_is ha ?_
    simp [go_sem, law11_OrientResults.r]
  have hwl := oriR_len h
  have he1 := he (oriR m).1 (by omega) (by omega)
  generalize oriR m = r at *
  simp only [Mesh.enc, Mesh.cs] at he1
  simp [go_sem]
  refine ACall_is ho1 ?_
  simp [go_sem, mieV, Mesh.enc, Mesh.cs]
  refine ACall_is hr1 ?_
  simp [go_sem, mieV, Mesh.enc, Mesh.cs]
  refine ACall_is he1 ?_
  simp [go_sem]
  refine ACall_is ha ?_
  simp [go_sem, law11_OrientResults.r]

end
end Go.Abs
