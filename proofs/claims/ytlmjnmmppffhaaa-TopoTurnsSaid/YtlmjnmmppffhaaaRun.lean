/- The examples of the chapter, run: they come out true. -/
import Derived.Test.YtlmjnmmppffhaaaBnd
import Derived.Test.YtlmjnmmppffhaaaGoHeap
import Derived.Test.YtlmjnmmppffhaaaGoKnB
import Derived.Test.YtlmjnmmppffhaaaGoKnB
import Derived.Test.YtlmjnmmppffhaaaGoKnB
set_option linter.unusedVariables false
set_option linter.unusedSimpArgs false
namespace Go.Proofs.Ytlmjnmmppffhaaa
open Go.Abs

theorem own : ownKnob Try.prog.godebug = none := by kernel_rfl
theorem laid : laidOutB Try.prog = true := by kernel_rfl
def tbl : Tbl
  | 10 => some ((law10_awake.c 31 20 11 32 14 13 16 23 29 18), law10_awake.r, law10_awake.n, false)
  | 31 => some (law10_example.c, law10_example.r, law10_example.n, false)
  | 20 => some ((topo_Loops.c 25 33 16 34), topo_Loops.r, topo_Loops.n, false)
  | 11 => some ((topo_Uses.c 33 34), topo_Uses.r, topo_Uses.n, false)
  | 32 => some (law10_same.c, law10_same.r, law10_same.n, false)
  | 13 => some (law10_edges.c, law10_edges.r, law10_edges.n, false)
  | 23 => some ((topo_Shells.c 25 45 39 46), topo_Shells.r, topo_Shells.n, false)
  | 29 => some ((topo_Euler.c 25 14), topo_Euler.r, topo_Euler.n, false)
  | 18 => some ((topo_Closed.c 25 16), topo_Closed.r, topo_Closed.n, false)
  | 25 => some ((mesh_Check.c 48), mesh_Check.r, mesh_Check.n, false)
  | 48 => some ((vec_Valid.c 59), vec_Valid.r, vec_Valid.n, false)
  | 59 => some (vec_within.c, vec_within.r, vec_within.n, false)
  | 45 => some (topo_edges.c, topo_edges.r, topo_edges.n, false)
  | 34 => some (topo_reverse.c, topo_reverse.r, topo_reverse.n, false)
  | 39 => some (topo_undirected.c, topo_undirected.r, topo_undirected.n, false)
  | 46 => some ((slices_Sort_int_int.c 55 58), slices_Sort_int_int.r, slices_Sort_int_int.n, true)
  | 58 => some ((slices_pdqsortOrdered_int.c 73 74 75 76 77 78 79 80 81 58), slices_pdqsortOrdered_int.r, slices_pdqsortOrdered_int.n, true)
  | 73 => some ((slices_insertionSortOrdered_int.c 79), slices_insertionSortOrdered_int.r, slices_insertionSortOrdered_int.n, true)
  | 55 => some ((bits_Len.c 70 71), bits_Len.r, bits_Len.n, false)
  | 71 => some (bits_Len64.c, bits_Len64.r, bits_Len64.n, false)
  | _ => none
theorem tbl_ok : ∀ f c rs n b, tbl f = some (c, rs, n, b) → FnOk Try.prog f c rs n ∧ callable Try.prog f = true := by
  intro f c rs n b h
  unfold tbl at h
  split at h
  · simp only [Option.some.injEq, Prod.mk.injEq] at h; obtain ⟨rfl, rfl, rfl, rfl⟩ := h; exact ⟨ok_law10_awake, by kernel_rfl⟩
  · simp only [Option.some.injEq, Prod.mk.injEq] at h; obtain ⟨rfl, rfl, rfl, rfl⟩ := h; exact ⟨ok_law10_example, by kernel_rfl⟩
  · simp only [Option.some.injEq, Prod.mk.injEq] at h; obtain ⟨rfl, rfl, rfl, rfl⟩ := h; exact ⟨ok_topo_Loops, by kernel_rfl⟩
  · simp only [Option.some.injEq, Prod.mk.injEq] at h; obtain ⟨rfl, rfl, rfl, rfl⟩ := h; exact ⟨ok_topo_Uses, by kernel_rfl⟩
  · simp only [Option.some.injEq, Prod.mk.injEq] at h; obtain ⟨rfl, rfl, rfl, rfl⟩ := h; exact ⟨ok_law10_same, by kernel_rfl⟩
  · simp only [Option.some.injEq, Prod.mk.injEq] at h; obtain ⟨rfl, rfl, rfl, rfl⟩ := h; exact ⟨ok_law10_edges, by kernel_rfl⟩
  · simp only [Option.some.injEq, Prod.mk.injEq] at h; obtain ⟨rfl, rfl, rfl, rfl⟩ := h; exact ⟨ok_topo_Shells, by kernel_rfl⟩
  · simp only [Option.some.injEq, Prod.mk.injEq] at h; obtain ⟨rfl, rfl, rfl, rfl⟩ := h; exact ⟨ok_topo_Euler, by kernel_rfl⟩
  · simp only [Option.some.injEq, Prod.mk.injEq] at h; obtain ⟨rfl, rfl, rfl, rfl⟩ := h; exact ⟨ok_topo_Closed, by kernel_rfl⟩
  · simp only [Option.some.injEq, Prod.mk.injEq] at h; obtain ⟨rfl, rfl, rfl, rfl⟩ := h; exact ⟨ok_mesh_Check, by kernel_rfl⟩
  · simp only [Option.some.injEq, Prod.mk.injEq] at h; obtain ⟨rfl, rfl, rfl, rfl⟩ := h; exact ⟨ok_vec_Valid, by kernel_rfl⟩
  · simp only [Option.some.injEq, Prod.mk.injEq] at h; obtain ⟨rfl, rfl, rfl, rfl⟩ := h; exact ⟨ok_vec_within, by kernel_rfl⟩
  · simp only [Option.some.injEq, Prod.mk.injEq] at h; obtain ⟨rfl, rfl, rfl, rfl⟩ := h; exact ⟨ok_topo_edges, by kernel_rfl⟩
  · simp only [Option.some.injEq, Prod.mk.injEq] at h; obtain ⟨rfl, rfl, rfl, rfl⟩ := h; exact ⟨ok_topo_reverse, by kernel_rfl⟩
  · simp only [Option.some.injEq, Prod.mk.injEq] at h; obtain ⟨rfl, rfl, rfl, rfl⟩ := h; exact ⟨ok_topo_undirected, by kernel_rfl⟩
  · simp only [Option.some.injEq, Prod.mk.injEq] at h; obtain ⟨rfl, rfl, rfl, rfl⟩ := h; exact ⟨ok_slices_Sort_int_int, by kernel_rfl⟩
  · simp only [Option.some.injEq, Prod.mk.injEq] at h; obtain ⟨rfl, rfl, rfl, rfl⟩ := h; exact ⟨ok_slices_pdqsortOrdered_int, by kernel_rfl⟩
  · simp only [Option.some.injEq, Prod.mk.injEq] at h; obtain ⟨rfl, rfl, rfl, rfl⟩ := h; exact ⟨ok_slices_insertionSortOrdered_int, by kernel_rfl⟩
  · simp only [Option.some.injEq, Prod.mk.injEq] at h; obtain ⟨rfl, rfl, rfl, rfl⟩ := h; exact ⟨ok_bits_Len, by kernel_rfl⟩
  · simp only [Option.some.injEq, Prod.mk.injEq] at h; obtain ⟨rfl, rfl, rfl, rfl⟩ := h; exact ⟨ok_bits_Len64, by kernel_rfl⟩
  · simp at h
def kn : Known
  | 33, vs => countedK vs
  | 16, vs => borderK vs
  | 14, vs => edgesLK vs
  | _, _ => none
theorem kn_ok : KnOk Try.prog kn := by
  intro f vs r0 h0 h
  unfold kn at h
  split at h
  · exact ⟨countedK_ok k_counted h, by kernel_rfl⟩
  · exact ⟨borderK_ok k_Boundary h, by kernel_rfl⟩
  · exact ⟨edgesLK_ok k_Edges h, by kernel_rfl⟩
  · simp at h
def isT : Option V → Bool
  | some (.b true) => true
  | _ => false
theorem isT_ok {o : Option V} (h : isT o = true) : o = some (.b true) := by
  unfold isT at h; split at h <;> simp_all
theorem awake_run : isT (runP tbl kn 5000 10 []) = true := by kernel_rfl
theorem awake_ok : AwakeC Try.prog 10 := PureC.is ((runF_ok mix tbl_ok kn_ok 5000).2 10 [] _ (isT_ok awake_run)).1 rfl
end Go.Proofs.Ytlmjnmmppffhaaa
