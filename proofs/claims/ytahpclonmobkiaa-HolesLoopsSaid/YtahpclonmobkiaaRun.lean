/- The examples of the chapter, run: they come out true. -/
import Derived.Test.YtahpclonmobkiaaBnd
import Derived.Test.YtahpclonmobkiaaGoHeap
import Derived.Test.YtahpclonmobkiaaGoClone
import Derived.Test.YtahpclonmobkiaaGoClone
import Derived.Test.YtahpclonmobkiaaGoKn
import Derived.Test.YtahpclonmobkiaaGoKn
set_option linter.unusedVariables false
set_option linter.unusedSimpArgs false
namespace Go.Proofs.Ytahpclonmobkiaa
open Go.Abs

theorem own : ownKnob Try.prog.godebug = none := by kernel_rfl
theorem laid : laidOutB Try.prog = true := by kernel_rfl
def tbl : Tbl
  | 10 => some ((law12_awake.c 23 12 8), law12_awake.r, law12_awake.n, false)
  | 23 => some (law12_tetra.c, law12_tetra.r, law12_tetra.n, false)
  | 12 => some ((holes_Fill.c 24 15 25 26 8 27), holes_Fill.r, holes_Fill.n, false)
  | 8 => some (holes_Fan.c, holes_Fan.r, holes_Fan.n, false)
  | 27 => some (holes_extend.c, holes_extend.r, holes_extend.n, true)
  | 24 => some ((mesh_Check.c 38), mesh_Check.r, mesh_Check.n, false)
  | 38 => some ((vec_Valid.c 50), vec_Valid.r, vec_Valid.n, false)
  | 50 => some (vec_within.c, vec_within.r, vec_within.n, false)
  | 15 => some ((topo_Loops.c 24 29 30 31), topo_Loops.r, topo_Loops.n, false)
  | 31 => some (topo_reverse.c, topo_reverse.r, topo_reverse.n, false)
  | _ => none
theorem tbl_ok : ∀ f c rs n b, tbl f = some (c, rs, n, b) → FnOk Try.prog f c rs n ∧ callable Try.prog f = true := by
  intro f c rs n b h
  unfold tbl at h
  split at h
  · simp only [Option.some.injEq, Prod.mk.injEq] at h; obtain ⟨rfl, rfl, rfl, rfl⟩ := h; exact ⟨ok_law12_awake, by kernel_rfl⟩
  · simp only [Option.some.injEq, Prod.mk.injEq] at h; obtain ⟨rfl, rfl, rfl, rfl⟩ := h; exact ⟨ok_law12_tetra, by kernel_rfl⟩
  · simp only [Option.some.injEq, Prod.mk.injEq] at h; obtain ⟨rfl, rfl, rfl, rfl⟩ := h; exact ⟨ok_holes_Fill, by kernel_rfl⟩
  · simp only [Option.some.injEq, Prod.mk.injEq] at h; obtain ⟨rfl, rfl, rfl, rfl⟩ := h; exact ⟨ok_holes_Fan, by kernel_rfl⟩
  · simp only [Option.some.injEq, Prod.mk.injEq] at h; obtain ⟨rfl, rfl, rfl, rfl⟩ := h; exact ⟨ok_holes_extend, by kernel_rfl⟩
  · simp only [Option.some.injEq, Prod.mk.injEq] at h; obtain ⟨rfl, rfl, rfl, rfl⟩ := h; exact ⟨ok_mesh_Check, by kernel_rfl⟩
  · simp only [Option.some.injEq, Prod.mk.injEq] at h; obtain ⟨rfl, rfl, rfl, rfl⟩ := h; exact ⟨ok_vec_Valid, by kernel_rfl⟩
  · simp only [Option.some.injEq, Prod.mk.injEq] at h; obtain ⟨rfl, rfl, rfl, rfl⟩ := h; exact ⟨ok_vec_within, by kernel_rfl⟩
  · simp only [Option.some.injEq, Prod.mk.injEq] at h; obtain ⟨rfl, rfl, rfl, rfl⟩ := h; exact ⟨ok_topo_Loops, by kernel_rfl⟩
  · simp only [Option.some.injEq, Prod.mk.injEq] at h; obtain ⟨rfl, rfl, rfl, rfl⟩ := h; exact ⟨ok_topo_reverse, by kernel_rfl⟩
  · simp at h
def kn : Known
  | 25, vs => cloneK 3 vs
  | 26, vs => cloneK 3 vs
  | 29, vs => countedK vs
  | 30, vs => borderK vs
  | _, _ => none
theorem kn_ok : KnOk Try.prog kn := by
  intro f vs r0 h0 h
  unfold kn at h
  split at h
  · exact ⟨cloneK_ok (slices_Clone3_ok mix ok_slices_Clone_api_Vec_api_Vec) h, by kernel_rfl⟩
  · exact ⟨cloneK_ok (slices_CloneT_ok mix ok_slices_Clone_api_Tri_api_Tri) h, by kernel_rfl⟩
  · exact ⟨countedK_ok k_counted h, by kernel_rfl⟩
  · exact ⟨borderK_ok k_Boundary h, by kernel_rfl⟩
  · simp at h
def isT : Option V → Bool
  | some (.b true) => true
  | _ => false
theorem isT_ok {o : Option V} (h : isT o = true) : o = some (.b true) := by
  unfold isT at h; split at h <;> simp_all
theorem awake_run : isT (runP tbl kn 5000 10 []) = true := by kernel_rfl
theorem awake_ok : AwakeC Try.prog 10 := PureC.is ((runF_ok mix tbl_ok kn_ok 5000).2 10 [] _ (isT_ok awake_run)).1 rfl
end Go.Proofs.Ytahpclonmobkiaa
