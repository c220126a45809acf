/- What the arguments of the statements are, by values: numbers, strings. -/
import Derived.Test.YtoppidobgkgiiaaAbsZ
set_option linter.unusedVariables false
set_option linter.unusedSimpArgs false
namespace Go.Abs

def AwakeC (P : Program) (f : FuncId) : Prop := CallIs P f [] (.b true)

theorem par_i {k : IntKind} {ps : List (Bool × List Sch)} {us : List V} (h : okPars ((false, [.i k]) :: ps) us) : ∃ n r, us = .i k n :: r ∧ (k.min ≤ n ∧ n ≤ k.max) ∧ okPars ps r := by
  simp only [okPars, okPar] at h
  obtain ⟨v, r, rfl, hv, hr⟩ := h
  simp only [okL, Sch.ok] at hv
  obtain ⟨x, r', h1, ⟨n, rfl, h2⟩, rfl⟩ := hv
  obtain rfl : v = .i k n := by simpa using h1
  exact ⟨n, r, rfl, h2, hr⟩

theorem par_s {ps : List (Bool × List Sch)} {us : List V} (h : okPars ((false, [.s]) :: ps) us) : ∃ (l : List UInt8) (r : List V), us = .s l :: r ∧ l.length ≤ 9223372036854775807 ∧ okPars ps r := by
  simp only [okPars, okPar] at h
  obtain ⟨v, r, rfl, hv, hr⟩ := h
  simp only [okL, Sch.ok] at hv
  obtain ⟨x, r', h1, ⟨n, rfl, h2⟩, rfl⟩ := hv
  obtain rfl : v = .s n := by simpa using h1
  exact ⟨n, r, rfl, h2, hr⟩

theorem par_0 {us : List V} (h : okPars [] us) : us = [] := h
end Go.Abs
