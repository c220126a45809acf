/- The examples of the chapter, run: they come out true. -/
import Derived.Test.YtaffnmhokdhgdaaOk
import Derived.Test.YtaffnmhokdhgdaaGoHeap
set_option linter.unusedVariables false
set_option linter.unusedSimpArgs false
namespace Go.Proofs.Ytaffnmhokdhgdaa
open Go.Abs

theorem mix : Try.prog.follows .mixedOrders = true := by rfl
theorem own : ownKnob Try.prog.godebug = none := by kernel_rfl
theorem laid : laidOutB Try.prog = true := by kernel_rfl
def tbl : Tbl
  | 11 => some ((law15_awake.c 9 13), law15_awake.r, law15_awake.n, false)
  | 9 => some ((section_Point.c 20 21), section_Point.r, section_Point.n, false)
  | 13 => some ((section_Cut.c 16 24 25), section_Cut.r, section_Cut.n, false)
  | 20 => some ((vec_Valid.c 28), vec_Valid.r, vec_Valid.n, false)
  | 28 => some (vec_within.c, vec_within.r, vec_within.n, false)
  | 21 => some ((section_cross.c 29), section_cross.r, section_cross.n, false)
  | 29 => some ((num_Round.c 35), num_Round.r, num_Round.n, false)
  | 35 => some (num_Floor.c, num_Floor.r, num_Floor.n, false)
  | 16 => some ((mesh_Check.c 20), mesh_Check.r, mesh_Check.n, false)
  | 24 => some ((mesh_Corners.c 16), mesh_Corners.r, mesh_Corners.n, false)
  | 25 => some ((section_cut.c 9), section_cut.r, section_cut.n, false)
  | _ => none
theorem tbl_ok : ∀ f c rs n b, tbl f = some (c, rs, n, b) → FnOk Try.prog f c rs n ∧ callable Try.prog f = true := by
  intro f c rs n b h
  unfold tbl at h
  split at h
  · simp only [Option.some.injEq, Prod.mk.injEq] at h; obtain ⟨rfl, rfl, rfl, rfl⟩ := h; exact ⟨ok_law15_awake, by kernel_rfl⟩
  · simp only [Option.some.injEq, Prod.mk.injEq] at h; obtain ⟨rfl, rfl, rfl, rfl⟩ := h; exact ⟨ok_section_Point, by kernel_rfl⟩
  · simp only [Option.some.injEq, Prod.mk.injEq] at h; obtain ⟨rfl, rfl, rfl, rfl⟩ := h; exact ⟨ok_section_Cut, by kernel_rfl⟩
  · simp only [Option.some.injEq, Prod.mk.injEq] at h; obtain ⟨rfl, rfl, rfl, rfl⟩ := h; exact ⟨ok_vec_Valid, by kernel_rfl⟩
  · simp only [Option.some.injEq, Prod.mk.injEq] at h; obtain ⟨rfl, rfl, rfl, rfl⟩ := h; exact ⟨ok_vec_within, by kernel_rfl⟩
  · simp only [Option.some.injEq, Prod.mk.injEq] at h; obtain ⟨rfl, rfl, rfl, rfl⟩ := h; exact ⟨ok_section_cross, by kernel_rfl⟩
  · simp only [Option.some.injEq, Prod.mk.injEq] at h; obtain ⟨rfl, rfl, rfl, rfl⟩ := h; exact ⟨ok_num_Round, by kernel_rfl⟩
  · simp only [Option.some.injEq, Prod.mk.injEq] at h; obtain ⟨rfl, rfl, rfl, rfl⟩ := h; exact ⟨ok_num_Floor, by kernel_rfl⟩
  · simp only [Option.some.injEq, Prod.mk.injEq] at h; obtain ⟨rfl, rfl, rfl, rfl⟩ := h; exact ⟨ok_mesh_Check, by kernel_rfl⟩
  · simp only [Option.some.injEq, Prod.mk.injEq] at h; obtain ⟨rfl, rfl, rfl, rfl⟩ := h; exact ⟨ok_mesh_Corners, by kernel_rfl⟩
  · simp only [Option.some.injEq, Prod.mk.injEq] at h; obtain ⟨rfl, rfl, rfl, rfl⟩ := h; exact ⟨ok_section_cut, by kernel_rfl⟩
  · simp at h
def kn : Known
  | _, _ => none
theorem kn_ok : KnOk Try.prog kn := by
  intro f vs r0 h0 h
  unfold kn at h
  simp at h
def isT : Option V → Bool
  | some (.b true) => true
  | _ => false
theorem isT_ok {o : Option V} (h : isT o = true) : o = some (.b true) := by
  unfold isT at h; split at h <;> simp_all
theorem awake_run : isT (runP tbl kn 5000 11 []) = true := by kernel_rfl
theorem awake_ok : AwakeC Try.prog 11 := PureC.is ((runF_ok mix tbl_ok kn_ok 5000).2 11 [] _ (isT_ok awake_run)).1 rfl
end Go.Proofs.Ytaffnmhokdhgdaa
