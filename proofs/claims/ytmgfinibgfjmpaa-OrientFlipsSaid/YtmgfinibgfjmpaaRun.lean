/- The examples of the chapter, run: they come out true. -/
import Derived.Test.YtmgfinibgfjmpaaOk
import Derived.Test.YtmgfinibgfjmpaaGoClone
set_option linter.unusedVariables false
set_option linter.unusedSimpArgs false
namespace Go.Proofs.Ytmgfinibgfjmpaa
open Go.Abs

theorem mix : Try.prog.follows .mixedOrders = true := by rfl
theorem own : ownKnob Try.prog.godebug = none := by kernel_rfl
theorem laid : laidOutB Try.prog = true := by kernel_rfl
def tbl : Tbl
  | 13 => some ((law11_awake.c 29 14 11), law11_awake.r, law11_awake.n, false)
  | 29 => some (law11_two.c, law11_two.r, law11_two.n, false)
  | 14 => some ((orient_Orient.c 17 30 31 32 33 26 36), orient_Orient.r, orient_Orient.n, false)
  | 17 => some ((mesh_Check.c 39), mesh_Check.r, mesh_Check.n, false)
  | 39 => some ((vec_Valid.c 55), vec_Valid.r, vec_Valid.n, false)
  | 55 => some (vec_within.c, vec_within.r, vec_within.n, false)
  | 31 => some (orient_edges.c, orient_edges.r, orient_edges.n, true)
  | 32 => some (orient_both.c, orient_both.r, orient_both.n, false)
  | 33 => some ((orient_Orient_1.c 31 34 35), orient_Orient_1.r, orient_Orient_1.n, false)
  | 34 => some ((slices_Contains_api_Edge_api_Edge.c 52), slices_Contains_api_Edge_api_Edge.r, slices_Contains_api_Edge_api_Edge.n, false)
  | 52 => some (slices_Index_api_Edge_api_Edge.c, slices_Index_api_Edge_api_Edge.r, slices_Index_api_Edge_api_Edge.n, false)
  | 35 => some (orient_reversed.c, orient_reversed.r, orient_reversed.n, false)
  | 26 => some ((orient_coherent.c 31), orient_coherent.r, orient_coherent.n, false)
  | 11 => some ((orient_Coherent.c 17 26), orient_Coherent.r, orient_Coherent.n, false)
  | _ => none
theorem tbl_ok : ∀ f c rs n b, tbl f = some (c, rs, n, b) → FnOk Try.prog f c rs n ∧ callable Try.prog f = true := by
  intro f c rs n b h
  unfold tbl at h
  split at h
  · simp only [Option.some.injEq, Prod.mk.injEq] at h; obtain ⟨rfl, rfl, rfl, rfl⟩ := h; exact ⟨ok_law11_awake, by kernel_rfl⟩
  · simp only [Option.some.injEq, Prod.mk.injEq] at h; obtain ⟨rfl, rfl, rfl, rfl⟩ := h; exact ⟨ok_law11_two, by kernel_rfl⟩
  · simp only [Option.some.injEq, Prod.mk.injEq] at h; obtain ⟨rfl, rfl, rfl, rfl⟩ := h; exact ⟨ok_orient_Orient, by kernel_rfl⟩
  · simp only [Option.some.injEq, Prod.mk.injEq] at h; obtain ⟨rfl, rfl, rfl, rfl⟩ := h; exact ⟨ok_mesh_Check, by kernel_rfl⟩
  · simp only [Option.some.injEq, Prod.mk.injEq] at h; obtain ⟨rfl, rfl, rfl, rfl⟩ := h; exact ⟨ok_vec_Valid, by kernel_rfl⟩
  · simp only [Option.some.injEq, Prod.mk.injEq] at h; obtain ⟨rfl, rfl, rfl, rfl⟩ := h; exact ⟨ok_vec_within, by kernel_rfl⟩
  · simp only [Option.some.injEq, Prod.mk.injEq] at h; obtain ⟨rfl, rfl, rfl, rfl⟩ := h; exact ⟨ok_orient_edges, by kernel_rfl⟩
  · simp only [Option.some.injEq, Prod.mk.injEq] at h; obtain ⟨rfl, rfl, rfl, rfl⟩ := h; exact ⟨ok_orient_both, by kernel_rfl⟩
  · simp only [Option.some.injEq, Prod.mk.injEq] at h; obtain ⟨rfl, rfl, rfl, rfl⟩ := h; exact ⟨ok_orient_Orient_1, by kernel_rfl⟩
  · simp only [Option.some.injEq, Prod.mk.injEq] at h; obtain ⟨rfl, rfl, rfl, rfl⟩ := h; exact ⟨ok_slices_Contains_api_Edge_api_Edge, by kernel_rfl⟩
  · simp only [Option.some.injEq, Prod.mk.injEq] at h; obtain ⟨rfl, rfl, rfl, rfl⟩ := h; exact ⟨ok_slices_Index_api_Edge_api_Edge, by kernel_rfl⟩
  · simp only [Option.some.injEq, Prod.mk.injEq] at h; obtain ⟨rfl, rfl, rfl, rfl⟩ := h; exact ⟨ok_orient_reversed, by kernel_rfl⟩
  · simp only [Option.some.injEq, Prod.mk.injEq] at h; obtain ⟨rfl, rfl, rfl, rfl⟩ := h; exact ⟨ok_orient_coherent, by kernel_rfl⟩
  · simp only [Option.some.injEq, Prod.mk.injEq] at h; obtain ⟨rfl, rfl, rfl, rfl⟩ := h; exact ⟨ok_orient_Coherent, by kernel_rfl⟩
  · simp at h
def kn : Known
  | 36, vs => cloneK 3 vs
  | 30, vs => cloneK 3 vs
  | _, _ => none
theorem kn_ok : KnOk Try.prog kn := by
  intro f vs r0 h0 h
  unfold kn at h
  split at h
  · exact ⟨cloneK_ok (slices_Clone3_ok mix ok_slices_Clone_api_Vec_api_Vec) h, by kernel_rfl⟩
  · exact ⟨cloneK_ok (slices_CloneT_ok mix ok_slices_Clone_api_Tri_api_Tri) h, by kernel_rfl⟩
  · simp at h
def isT : Option V → Bool
  | some (.b true) => true
  | _ => false
theorem isT_ok {o : Option V} (h : isT o = true) : o = some (.b true) := by
  unfold isT at h; split at h <;> simp_all
theorem awake_run : isT (runP tbl kn 5000 13 []) = true := by kernel_rfl
theorem awake_ok : AwakeC Try.prog 13 := PureC.is ((runF_ok mix tbl_ok kn_ok 5000).2 13 [] _ (isT_ok awake_run)).1 rfl
end Go.Proofs.Ytmgfinibgfjmpaa
