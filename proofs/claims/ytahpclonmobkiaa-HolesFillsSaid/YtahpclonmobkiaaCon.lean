/- What the program's functions do to values. -/
import Derived.Test.YtahpclonmobkiaaRun
import Derived.Test.YtahpclonmobkiaaGoSch
set_option linter.unusedVariables false
set_option linter.unusedSimpArgs false
namespace Go.Proofs.Ytahpclonmobkiaa
open Go.Abs

theorem ints_of : ∀ els : List (List V), (∀ e ∈ els, okL [.i .i64] e) → ∃ l : List Int, els = l.map fun x => [V.i .i64 x]
  | [], _ => ⟨[], rfl⟩
  | e :: els, h => by
    obtain ⟨l, rfl⟩ := ints_of els (fun e he => h e (by simp [he]))
    have h1 := h e (by simp)
    simp only [okL, Sch.ok] at h1
    obtain ⟨v1, r1, rfl, ⟨x, rfl, _⟩, rfl⟩ := h1
    exact ⟨x :: l, rfl⟩
theorem par_is {ps : List (Bool × List Sch)} {us : List V} (h : okPars ((false, [.sl [.i .i64]]) :: ps) us) : ∃ (l : List Int) (r : List V), us = isV l :: r ∧ l.length ≤ 9223372036854775807 ∧ okPars ps r := by
  simp only [okPars, okPar] at h
  obtain ⟨v, r, rfl, hv, hr⟩ := h
  simp only [okL, Sch.ok] at hv
  obtain ⟨x, r', h1, ⟨els, rfl, h2, h3⟩, rfl⟩ := hv
  obtain rfl : v = .l 1 els := by simpa using h1
  obtain ⟨rs, rfl⟩ := ints_of els h3
  exact ⟨rs, r, rfl, by simpa using h2, hr⟩
theorem k_Fan : FanC Try.prog 8 := holes_Fan_ok mix ok_holes_Fan
theorem k_rFan : FanC Try.prog 9 := ref12_Fan_ok mix ok_ref12_Fan
end Go.Proofs.Ytahpclonmobkiaa
