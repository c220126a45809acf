/- What the arguments of the statements are, by values. -/
import Derived.Test.YtlmjnmmppffhaaaGoMeshC
import Derived.Test.YtlmjnmmppffhaaaGoHeap
set_option linter.unusedVariables false
set_option linter.unusedSimpArgs false
namespace Go.Abs

def schV : List Sch := [.i .i64, .i .i64, .i .i64]
def schM : List Sch := [.sl schV, .sl schV]

theorem v3_of {e : List V} (h : okL schV e) : ∃ v : V3, e = v.cs := by
  simp only [schV, okL, Sch.ok] at h
  obtain ⟨v1, r1, rfl, ⟨x, rfl, _⟩, v2, r2, rfl, ⟨y, rfl, _⟩, v3, r3, rfl, ⟨z, rfl, _⟩, rfl⟩ := h
  exact ⟨⟨x, y, z⟩, rfl⟩
theorem t3_of {e : List V} (h : okL schV e) : ∃ v : T3, e = v.cs := by
  simp only [schV, okL, Sch.ok] at h
  obtain ⟨v1, r1, rfl, ⟨x, rfl, _⟩, v2, r2, rfl, ⟨y, rfl, _⟩, v3, r3, rfl, ⟨z, rfl, _⟩, rfl⟩ := h
  exact ⟨⟨x, y, z⟩, rfl⟩

theorem list_of {α : Type} {f : α → List V} {el : List Sch} (hf : ∀ e, okL el e → ∃ v, e = f v) : ∀ els : List (List V), (∀ e ∈ els, okL el e) → ∃ l : List α, els = l.map f
  | [], _ => ⟨[], rfl⟩
  | e :: els, h => by
    obtain ⟨l, rfl⟩ := list_of hf els (fun e he => h e (by simp [he]))
    obtain ⟨v, rfl⟩ := hf e (h e (by simp))
    exact ⟨v :: l, rfl⟩

theorem par_v {ps : List (Bool × List Sch)} {us : List V} (h : okPars ((true, schV) :: ps) us) : ∃ (v : V3) (r : List V), us = v.enc :: r ∧ okPars ps r := by
  simp only [okPars, okPar] at h
  obtain ⟨v, r, rfl, ⟨cs, rfl, hc⟩, hr⟩ := h
  obtain ⟨p, rfl⟩ := v3_of hc
  exact ⟨p, r, rfl, hr⟩

theorem par_m {ps : List (Bool × List Sch)} {us : List V} (h : okPars ((true, schM) :: ps) us) : ∃ (m : Mesh) (r : List V), us = m.enc :: r ∧ (m.verts.length ≤ 9223372036854775807 ∧ m.tris.length ≤ 9223372036854775807) ∧ okPars ps r := by
  simp only [okPars, okPar] at h
  obtain ⟨v, r, rfl, ⟨cs, rfl, hc⟩, hr⟩ := h
  simp only [schM, okL, Sch.ok] at hc
  obtain ⟨v1, r1, rfl, ⟨els, rfl, hl, he⟩, v2, r2, rfl, ⟨els2, rfl, hl2, he2⟩, rfl⟩ := hc
  obtain ⟨vs, rfl⟩ := list_of (fun e => v3_of) els he
  obtain ⟨ts, rfl⟩ := list_of (fun e => t3_of) els2 he2
  exact ⟨⟨vs, ts⟩, r, rfl, ⟨by simpa using hl, by simpa using hl2⟩, hr⟩
end Go.Abs

