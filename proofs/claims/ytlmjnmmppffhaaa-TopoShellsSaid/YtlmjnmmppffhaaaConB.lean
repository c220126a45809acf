/- What the program's functions do to values. -/
import Derived.Test.YtlmjnmmppffhaaaOkB
import Derived.Test.YtlmjnmmppffhaaaRun
import Derived.Test.YtlmjnmmppffhaaaGoSch
set_option linter.unusedVariables false
set_option linter.unusedSimpArgs false
namespace Go.Proofs.Ytlmjnmmppffhaaa
open Go.Abs

theorem p2_of {e : List V} (h : okL [.i .i64, .i .i64] e) : ∃ v : P2, e = v.cs := by
  simp only [okL, Sch.ok] at h
  obtain ⟨v1, r1, rfl, ⟨x, rfl, _⟩, v2, r2, rfl, ⟨y, rfl, _⟩, rfl⟩ := h
  exact ⟨⟨x, y⟩, rfl⟩
theorem par_e {ps : List (Bool × List Sch)} {us : List V} (h : okPars ((true, [.i .i64, .i .i64]) :: ps) us) : ∃ (v : P2) (r : List V), us = v.enc :: r ∧ okPars ps r := by
  simp only [okPars, okPar] at h
  obtain ⟨v, r, rfl, ⟨cs, rfl, hc⟩, hr⟩ := h
  obtain ⟨p, rfl⟩ := p2_of hc
  exact ⟨p, r, rfl, hr⟩
theorem k_rValid : ValidC Try.prog 51 := ref04_Valid_ok mix ok_ref04_Valid (ref04_within_ok mix ok_ref04_within)
theorem k_rCheck : CheckC Try.prog 35 := ref07_Check_ok mix ok_ref07_Check k_rValid
theorem k_heavy : HeavyC Try.prog 9 := law10_heavy_ok mix ok_law10_heavy
theorem k_eqP : EqPC Try.prog 13 := law10_edges_ok mix ok_law10_edges
theorem k_eqL : EqLC Try.prog 22 := law10_lists_ok mix ok_law10_lists (law10_same_ok mix ok_law10_same)
theorem k_Loops : LoopsC Try.prog 20 := topo_Loops_ok mix ok_topo_Loops k_Check k_counted k_Boundary k_rev
theorem k_Uses : UsesC Try.prog 11 := topo_Uses_ok mix ok_topo_Uses k_counted k_rev
theorem k_place : PlaceC Try.prog 53 := ref10_place_ok mix ok_ref10_place (ref10_before_ok mix ok_ref10_before)
theorem k_number : NumberC Try.prog 37 := ref10_number_ok mix ok_ref10_number k_place
theorem k_with : WithC Try.prog 52 := ref10_with_ok mix ok_ref10_with k_place
theorem k_Directed : EdgesC Try.prog 49 := ref10_Directed_ok mix ok_ref10_Directed
theorem k_counts : CountsC Try.prog 36 := ref10_counts_ok mix ok_ref10_counts k_Directed k_with k_place
theorem k_rund : UndC Try.prog 50 := ref10_Undirected_ok mix ok_ref10_Undirected
theorem k_undir : UndirC Try.prog 42 := ref10_undirected_ok mix ok_ref10_undirected k_Directed k_rund k_with
theorem k_rrev : RevC Try.prog 38 := ref10_reverse_ok mix ok_ref10_reverse
theorem k_rEdges : EdgesLC Try.prog 15 := ref10_Edges_ok mix ok_ref10_Edges k_rCheck k_undir
theorem k_rBoundary : BoundaryC Try.prog 17 := ref10_Boundary_ok mix ok_ref10_Boundary k_rCheck k_counts k_rrev k_number
theorem k_rUses : UsesC Try.prog 12 := ref10_Uses_ok mix ok_ref10_Uses k_rCheck k_counts k_rrev k_number
theorem k_rLoops : LoopsC Try.prog 21 := ref10_Loops_ok mix ok_ref10_Loops k_rCheck k_rBoundary (ref10_simple_ok mix ok_ref10_simple k_counts k_number k_rrev) (ref10_source_ok mix ok_ref10_source)
theorem k_Closed : ClosedC Try.prog 18 := topo_Closed_ok mix ok_topo_Closed k_Check k_Boundary
theorem k_rClosed : ClosedC Try.prog 19 := ref10_Closed_ok mix ok_ref10_Closed k_rCheck k_rBoundary
end Go.Proofs.Ytlmjnmmppffhaaa
