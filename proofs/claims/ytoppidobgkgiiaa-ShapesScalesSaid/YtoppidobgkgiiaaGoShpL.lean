/- The statement about boxes, by values. -/
import Derived.Test.YtoppidobgkgiiaaGoShpC
set_option linter.unusedVariables false
set_option linter.unusedSimpArgs false
namespace Go.Abs

theorem v3_ofR {e : List V} (h : okL schV e) : ∃ v : V3, e = v.cs ∧ v.inR = true := by
  simp only [schV, okL, Sch.ok] at h
  obtain ⟨v1, r1, rfl, ⟨x, rfl, hx⟩, v2, r2, rfl, ⟨y, rfl, hy⟩, v3, r3, rfl, ⟨z, rfl, hz⟩, rfl⟩ := h
  refine ⟨⟨x, y, z⟩, rfl, ?_⟩
  simp only [V3.inR, Bool.and_eq_true, inI_iff]
  exact ⟨⟨hx, hy⟩, hz⟩
theorem par_vr {ps : List (Bool × List Sch)} {us : List V} (h : okPars ((true, schV) :: ps) us) : ∃ (v : V3) (r : List V), us = v.enc :: r ∧ v.inR = true ∧ okPars ps r := by
  simp only [okPars, okPar] at h
  obtain ⟨v, r, rfl, ⟨cs, rfl, hc⟩, hr⟩ := h
  obtain ⟨p, rfl, hp⟩ := v3_ofR hc
  exact ⟨p, r, rfl, hp, hr⟩

section
variable {P : Program} (hm : P.follows .mixedOrders = true)
include hm

set_option maxHeartbeats 4000000 in
theorem ShapesBoxes_ok {f fb fr fs fa : FuncId} (hf : FnOk P f (law13_ShapesBoxes.c fb fr fs fa) law13_ShapesBoxes.r law13_ShapesBoxes.n)
    (hb : BoxC P fb) (hr : BoxC P fr) (hs : SameMC P fs) (ha : AwakeC P fa) (p s : V3) (h1 : p.inR = true) (h2 : s.inR = true) :
    PureC P f [p.enc, s.enc] (· = .b true) := by
  have hex : ∃ m e, boxV p s = mesV m e ∧ m.verts.length ≤ 1000000 ∧ m.tris.length ≤ 1000000 := by
    unfold boxV
    split
    · exact ⟨_, _, rfl, by simp [noMesh], by simp [noMesh]⟩
    · split
      · exact ⟨_, _, rfl, by simp [boxVerts], by simp [boxTris]⟩
      · exact ⟨_, _, rfl, by simp [noMesh], by simp [noMesh]⟩
  obtain ⟨m, e, hme, hl1, hl2⟩ := hex
  refine pure_of hm hf (Nat.le_of_ble_eq_true rfl) ?_
  unfold law13_ShapesBoxes.c
  simp [go_sem, V3.enc, V3.cs]
  refine ACall_is (hb p s h1 h2) ?_
  rw [hme]
  simp [go_sem, mesV, Mesh.enc, Mesh.cs]
  refine ACall_is (hr p s h1 h2) ?_
  rw [hme]
  simp [go_sem, mesV, Mesh.enc, Mesh.cs]
  refine ACall_is (hs m hl1 hl2) ?_
  simp [go_sem]
  refine ACall_is ha ?_
  simp [go_sem, law13_ShapesBoxes.r]
end
end Go.Abs

