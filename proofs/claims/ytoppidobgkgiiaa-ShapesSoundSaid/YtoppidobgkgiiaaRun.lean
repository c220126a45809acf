/- The examples of the chapter, run: they come out true. -/
import Derived.Test.YtoppidobgkgiiaaAbsWS
import Derived.Test.YtoppidobgkgiiaaOk
import Derived.Test.YtoppidobgkgiiaaGoOriB
set_option linter.unusedVariables false
set_option linter.unusedSimpArgs false
namespace Go.Proofs.Ytoppidobgkgiiaa
open Go.Abs

theorem mix : Try.prog.follows .mixedOrders = true := by rfl
theorem own : ownKnob Try.prog.godebug = none := by kernel_rfl
theorem laid : laidOutB Try.prog = true := by kernel_rfl
def tbl : Tbl
  | 12 => some ((law13_awake.c 9 40 14 16 21 30), law13_awake.r, law13_awake.n, false)
  | 9 => some ((shapes_Box.c 33 34 35 36 37), shapes_Box.r, shapes_Box.n, false)
  | 33 => some ((shapes_fits.c 62), shapes_fits.r, shapes_fits.n, false)
  | 34 => some (shapes_near.c, shapes_near.r, shapes_near.n, false)
  | 35 => some (shapes_plus.c, shapes_plus.r, shapes_plus.n, false)
  | 36 => some ((shapes_corners.c 35), shapes_corners.r, shapes_corners.n, false)
  | 40 => some (law13_corner.c, law13_corner.r, law13_corner.n, false)
  | 14 => some ((shapes_Prism.c 41 42 43), shapes_Prism.r, shapes_Prism.n, false)
  | 41 => some (shapes_level.c, shapes_level.r, shapes_level.n, true)
  | 42 => some (shapes_bottom.c, shapes_bottom.r, shapes_bottom.n, true)
  | 43 => some ((shapes_solid.c 33 70), shapes_solid.r, shapes_solid.n, false)
  | 70 => some ((shapes_convex.c 89), shapes_convex.r, shapes_convex.n, false)
  | 89 => some ((planar_Turn.c 97), planar_Turn.r, planar_Turn.n, false)
  | 97 => some ((planar_Cross.c 68), planar_Cross.r, planar_Cross.n, false)
  | 68 => some (planar_Valid.c, planar_Valid.r, planar_Valid.n, false)
  | 16 => some ((shapes_Pyramid.c 41 42 43), shapes_Pyramid.r, shapes_Pyramid.n, false)
  | 21 => some ((shapes_Turn.c 27 49 53 54), shapes_Turn.r, shapes_Turn.n, false)
  | 27 => some ((mesh_Check.c 62), mesh_Check.r, mesh_Check.n, false)
  | 62 => some ((vec_Valid.c 76), vec_Valid.r, vec_Valid.n, false)
  | 76 => some (vec_within.c, vec_within.r, vec_within.n, false)
  | 49 => some ((shapes_change.c 37 72), shapes_change.r, shapes_change.n, false)
  | 53 => some (shapes_Turn_1.c, shapes_Turn_1.r, shapes_Turn_1.n, false)
  | 54 => some (shapes_Turn_2.c, shapes_Turn_2.r, shapes_Turn_2.n, false)
  | 30 => some ((mesh_Volume6.c 27 64), mesh_Volume6.r, mesh_Volume6.n, false)
  | 64 => some ((vec_Det.c 81 83 82), vec_Det.r, vec_Det.n, false)
  | 81 => some ((vec_small.c 76), vec_small.r, vec_small.n, false)
  | 82 => some ((vec_Dot.c 81 76), vec_Dot.r, vec_Dot.n, false)
  | 83 => some ((vec_Cross.c 81), vec_Cross.r, vec_Cross.n, false)
  | _ => none
theorem tbl_ok : ∀ f c rs n b, tbl f = some (c, rs, n, b) → FnOk Try.prog f c rs n ∧ callable Try.prog f = true := by
  intro f c rs n b h
  unfold tbl at h
  split at h
  · simp only [Option.some.injEq, Prod.mk.injEq] at h; obtain ⟨rfl, rfl, rfl, rfl⟩ := h; exact ⟨ok_law13_awake, by kernel_rfl⟩
  · simp only [Option.some.injEq, Prod.mk.injEq] at h; obtain ⟨rfl, rfl, rfl, rfl⟩ := h; exact ⟨ok_shapes_Box, by kernel_rfl⟩
  · simp only [Option.some.injEq, Prod.mk.injEq] at h; obtain ⟨rfl, rfl, rfl, rfl⟩ := h; exact ⟨ok_shapes_fits, by kernel_rfl⟩
  · simp only [Option.some.injEq, Prod.mk.injEq] at h; obtain ⟨rfl, rfl, rfl, rfl⟩ := h; exact ⟨ok_shapes_near, by kernel_rfl⟩
  · simp only [Option.some.injEq, Prod.mk.injEq] at h; obtain ⟨rfl, rfl, rfl, rfl⟩ := h; exact ⟨ok_shapes_plus, by kernel_rfl⟩
  · simp only [Option.some.injEq, Prod.mk.injEq] at h; obtain ⟨rfl, rfl, rfl, rfl⟩ := h; exact ⟨ok_shapes_corners, by kernel_rfl⟩
  · simp only [Option.some.injEq, Prod.mk.injEq] at h; obtain ⟨rfl, rfl, rfl, rfl⟩ := h; exact ⟨ok_law13_corner, by kernel_rfl⟩
  · simp only [Option.some.injEq, Prod.mk.injEq] at h; obtain ⟨rfl, rfl, rfl, rfl⟩ := h; exact ⟨ok_shapes_Prism, by kernel_rfl⟩
  · simp only [Option.some.injEq, Prod.mk.injEq] at h; obtain ⟨rfl, rfl, rfl, rfl⟩ := h; exact ⟨ok_shapes_level, by kernel_rfl⟩
  · simp only [Option.some.injEq, Prod.mk.injEq] at h; obtain ⟨rfl, rfl, rfl, rfl⟩ := h; exact ⟨ok_shapes_bottom, by kernel_rfl⟩
  · simp only [Option.some.injEq, Prod.mk.injEq] at h; obtain ⟨rfl, rfl, rfl, rfl⟩ := h; exact ⟨ok_shapes_solid, by kernel_rfl⟩
  · simp only [Option.some.injEq, Prod.mk.injEq] at h; obtain ⟨rfl, rfl, rfl, rfl⟩ := h; exact ⟨ok_shapes_convex, by kernel_rfl⟩
  · simp only [Option.some.injEq, Prod.mk.injEq] at h; obtain ⟨rfl, rfl, rfl, rfl⟩ := h; exact ⟨ok_planar_Turn, by kernel_rfl⟩
  · simp only [Option.some.injEq, Prod.mk.injEq] at h; obtain ⟨rfl, rfl, rfl, rfl⟩ := h; exact ⟨ok_planar_Cross, by kernel_rfl⟩
  · simp only [Option.some.injEq, Prod.mk.injEq] at h; obtain ⟨rfl, rfl, rfl, rfl⟩ := h; exact ⟨ok_planar_Valid, by kernel_rfl⟩
  · simp only [Option.some.injEq, Prod.mk.injEq] at h; obtain ⟨rfl, rfl, rfl, rfl⟩ := h; exact ⟨ok_shapes_Pyramid, by kernel_rfl⟩
  · simp only [Option.some.injEq, Prod.mk.injEq] at h; obtain ⟨rfl, rfl, rfl, rfl⟩ := h; exact ⟨ok_shapes_Turn, by kernel_rfl⟩
  · simp only [Option.some.injEq, Prod.mk.injEq] at h; obtain ⟨rfl, rfl, rfl, rfl⟩ := h; exact ⟨ok_mesh_Check, by kernel_rfl⟩
  · simp only [Option.some.injEq, Prod.mk.injEq] at h; obtain ⟨rfl, rfl, rfl, rfl⟩ := h; exact ⟨ok_vec_Valid, by kernel_rfl⟩
  · simp only [Option.some.injEq, Prod.mk.injEq] at h; obtain ⟨rfl, rfl, rfl, rfl⟩ := h; exact ⟨ok_vec_within, by kernel_rfl⟩
  · simp only [Option.some.injEq, Prod.mk.injEq] at h; obtain ⟨rfl, rfl, rfl, rfl⟩ := h; exact ⟨ok_shapes_change, by kernel_rfl⟩
  · simp only [Option.some.injEq, Prod.mk.injEq] at h; obtain ⟨rfl, rfl, rfl, rfl⟩ := h; exact ⟨ok_shapes_Turn_1, by kernel_rfl⟩
  · simp only [Option.some.injEq, Prod.mk.injEq] at h; obtain ⟨rfl, rfl, rfl, rfl⟩ := h; exact ⟨ok_shapes_Turn_2, by kernel_rfl⟩
  · simp only [Option.some.injEq, Prod.mk.injEq] at h; obtain ⟨rfl, rfl, rfl, rfl⟩ := h; exact ⟨ok_mesh_Volume6, by kernel_rfl⟩
  · simp only [Option.some.injEq, Prod.mk.injEq] at h; obtain ⟨rfl, rfl, rfl, rfl⟩ := h; exact ⟨ok_vec_Det, by kernel_rfl⟩
  · simp only [Option.some.injEq, Prod.mk.injEq] at h; obtain ⟨rfl, rfl, rfl, rfl⟩ := h; exact ⟨ok_vec_small, by kernel_rfl⟩
  · simp only [Option.some.injEq, Prod.mk.injEq] at h; obtain ⟨rfl, rfl, rfl, rfl⟩ := h; exact ⟨ok_vec_Dot, by kernel_rfl⟩
  · simp only [Option.some.injEq, Prod.mk.injEq] at h; obtain ⟨rfl, rfl, rfl, rfl⟩ := h; exact ⟨ok_vec_Cross, by kernel_rfl⟩
  · simp at h
def kn : Known
  | 37, vs => cloneK 3 vs
  | 72, vs => cloneK 3 vs
  | _, _ => none
theorem kn_ok : KnOk Try.prog kn := by
  intro f vs r0 h0 h
  unfold kn at h
  split at h
  · exact ⟨cloneK_ok (slices_Clone3_ok mix ok_slices_Clone_api_Vec_api_Vec) h, by kernel_rfl⟩
  · exact ⟨cloneK_ok (slices_CloneT_ok mix ok_slices_Clone_api_Tri_api_Tri) h, by kernel_rfl⟩
  · simp at h
def isT : Option V → Bool
  | some (.b true) => true
  | _ => false
theorem isT_ok {o : Option V} (h : isT o = true) : o = some (.b true) := by
  unfold isT at h; split at h <;> simp_all
theorem sub_0 : runP tbl kn 5000 9 [.a [.i .i64 (0), .i .i64 (0), .i .i64 (0)], .a [.i .i64 (1), .i .i64 (2), .i .i64 (3)]] = some (.t [.a [.l 3 [[.i .i64 (0), .i .i64 (0), .i .i64 (0)], [.i .i64 (1), .i .i64 (0), .i .i64 (0)], [.i .i64 (0), .i .i64 (2), .i .i64 (0)], [.i .i64 (1), .i .i64 (2), .i .i64 (0)], [.i .i64 (0), .i .i64 (0), .i .i64 (3)], [.i .i64 (1), .i .i64 (0), .i .i64 (3)], [.i .i64 (0), .i .i64 (2), .i .i64 (3)], [.i .i64 (1), .i .i64 (2), .i .i64 (3)]], .l 3 [[.i .i64 (0), .i .i64 (2), .i .i64 (3)], [.i .i64 (0), .i .i64 (3), .i .i64 (1)], [.i .i64 (4), .i .i64 (5), .i .i64 (7)], [.i .i64 (4), .i .i64 (7), .i .i64 (6)], [.i .i64 (0), .i .i64 (1), .i .i64 (5)], [.i .i64 (0), .i .i64 (5), .i .i64 (4)], [.i .i64 (2), .i .i64 (6), .i .i64 (7)], [.i .i64 (2), .i .i64 (7), .i .i64 (3)], [.i .i64 (0), .i .i64 (4), .i .i64 (6)], [.i .i64 (0), .i .i64 (6), .i .i64 (2)], [.i .i64 (1), .i .i64 (3), .i .i64 (7)], [.i .i64 (1), .i .i64 (7), .i .i64 (5)]]], .i .i64 (0)]) := by kernel_rfl
theorem sub_1 : runP tbl kn 5000 14 [.l 2 [[.i .i64 0, .i .i64 0], [.i .i64 2, .i .i64 0], [.i .i64 0, .i .i64 2]], .i .i64 0, .i .i64 1] = some (.t [.a [.l 3 [[.i .i64 (0), .i .i64 (0), .i .i64 (0)], [.i .i64 (2), .i .i64 (0), .i .i64 (0)], [.i .i64 (0), .i .i64 (2), .i .i64 (0)], [.i .i64 (0), .i .i64 (0), .i .i64 (1)], [.i .i64 (2), .i .i64 (0), .i .i64 (1)], [.i .i64 (0), .i .i64 (2), .i .i64 (1)]], .l 3 [[.i .i64 (0), .i .i64 (2), .i .i64 (1)], [.i .i64 (3), .i .i64 (4), .i .i64 (5)], [.i .i64 (0), .i .i64 (1), .i .i64 (4)], [.i .i64 (0), .i .i64 (4), .i .i64 (3)], [.i .i64 (1), .i .i64 (2), .i .i64 (5)], [.i .i64 (1), .i .i64 (5), .i .i64 (4)], [.i .i64 (2), .i .i64 (0), .i .i64 (3)], [.i .i64 (2), .i .i64 (3), .i .i64 (5)]]], .i .i64 (0)]) := by kernel_rfl
theorem sub_2 : runP tbl kn 5000 16 [.l 2 [[.i .i64 0, .i .i64 0], [.i .i64 2, .i .i64 0], [.i .i64 0, .i .i64 2]], .i .i64 0, .a [.i .i64 (0), .i .i64 (0), .i .i64 (3)]] = some (.t [.a [.l 3 [[.i .i64 (0), .i .i64 (0), .i .i64 (0)], [.i .i64 (2), .i .i64 (0), .i .i64 (0)], [.i .i64 (0), .i .i64 (2), .i .i64 (0)], [.i .i64 (0), .i .i64 (0), .i .i64 (3)]], .l 3 [[.i .i64 (0), .i .i64 (2), .i .i64 (1)], [.i .i64 (0), .i .i64 (1), .i .i64 (3)], [.i .i64 (1), .i .i64 (2), .i .i64 (3)], [.i .i64 (2), .i .i64 (0), .i .i64 (3)]]], .i .i64 (0)]) := by kernel_rfl
theorem sub_3 : runP tbl kn 5000 14 [.l 2 [[.i .i64 0, .i .i64 0], [.i .i64 0, .i .i64 2], [.i .i64 2, .i .i64 0]], .i .i64 0, .i .i64 1] = some (.t [.a [.nil, .nil], .i .i64 (1)]) := by kernel_rfl
theorem sub_4 : runP tbl kn 5000 30 [.a [.l 3 [[.i .i64 (0), .i .i64 (0), .i .i64 (0)], [.i .i64 (1), .i .i64 (0), .i .i64 (0)], [.i .i64 (0), .i .i64 (2), .i .i64 (0)], [.i .i64 (1), .i .i64 (2), .i .i64 (0)], [.i .i64 (0), .i .i64 (0), .i .i64 (3)], [.i .i64 (1), .i .i64 (0), .i .i64 (3)], [.i .i64 (0), .i .i64 (2), .i .i64 (3)], [.i .i64 (1), .i .i64 (2), .i .i64 (3)]], .l 3 [[.i .i64 (0), .i .i64 (2), .i .i64 (3)], [.i .i64 (0), .i .i64 (3), .i .i64 (1)], [.i .i64 (4), .i .i64 (5), .i .i64 (7)], [.i .i64 (4), .i .i64 (7), .i .i64 (6)], [.i .i64 (0), .i .i64 (1), .i .i64 (5)], [.i .i64 (0), .i .i64 (5), .i .i64 (4)], [.i .i64 (2), .i .i64 (6), .i .i64 (7)], [.i .i64 (2), .i .i64 (7), .i .i64 (3)], [.i .i64 (0), .i .i64 (4), .i .i64 (6)], [.i .i64 (0), .i .i64 (6), .i .i64 (2)], [.i .i64 (1), .i .i64 (3), .i .i64 (7)], [.i .i64 (1), .i .i64 (7), .i .i64 (5)]]]] = some (.i .i64 (36)) := by kernel_rfl
theorem sub_5 : runP tbl kn 5000 30 [.a [.l 3 [[.i .i64 (0), .i .i64 (0), .i .i64 (0)], [.i .i64 (2), .i .i64 (0), .i .i64 (0)], [.i .i64 (0), .i .i64 (2), .i .i64 (0)], [.i .i64 (0), .i .i64 (0), .i .i64 (1)], [.i .i64 (2), .i .i64 (0), .i .i64 (1)], [.i .i64 (0), .i .i64 (2), .i .i64 (1)]], .l 3 [[.i .i64 (0), .i .i64 (2), .i .i64 (1)], [.i .i64 (3), .i .i64 (4), .i .i64 (5)], [.i .i64 (0), .i .i64 (1), .i .i64 (4)], [.i .i64 (0), .i .i64 (4), .i .i64 (3)], [.i .i64 (1), .i .i64 (2), .i .i64 (5)], [.i .i64 (1), .i .i64 (5), .i .i64 (4)], [.i .i64 (2), .i .i64 (0), .i .i64 (3)], [.i .i64 (2), .i .i64 (3), .i .i64 (5)]]]] = some (.i .i64 (12)) := by kernel_rfl
theorem sub_6 : runP tbl kn 5000 30 [.a [.l 3 [[.i .i64 (0), .i .i64 (0), .i .i64 (0)], [.i .i64 (2), .i .i64 (0), .i .i64 (0)], [.i .i64 (0), .i .i64 (2), .i .i64 (0)], [.i .i64 (0), .i .i64 (0), .i .i64 (3)]], .l 3 [[.i .i64 (0), .i .i64 (2), .i .i64 (1)], [.i .i64 (0), .i .i64 (1), .i .i64 (3)], [.i .i64 (1), .i .i64 (2), .i .i64 (3)], [.i .i64 (2), .i .i64 (0), .i .i64 (3)]]]] = some (.i .i64 (12)) := by kernel_rfl
def sub9 : List (List V × V) := [([.a [.i .i64 (0), .i .i64 (0), .i .i64 (0)], .a [.i .i64 (1), .i .i64 (2), .i .i64 (3)]], .t [.a [.l 3 [[.i .i64 (0), .i .i64 (0), .i .i64 (0)], [.i .i64 (1), .i .i64 (0), .i .i64 (0)], [.i .i64 (0), .i .i64 (2), .i .i64 (0)], [.i .i64 (1), .i .i64 (2), .i .i64 (0)], [.i .i64 (0), .i .i64 (0), .i .i64 (3)], [.i .i64 (1), .i .i64 (0), .i .i64 (3)], [.i .i64 (0), .i .i64 (2), .i .i64 (3)], [.i .i64 (1), .i .i64 (2), .i .i64 (3)]], .l 3 [[.i .i64 (0), .i .i64 (2), .i .i64 (3)], [.i .i64 (0), .i .i64 (3), .i .i64 (1)], [.i .i64 (4), .i .i64 (5), .i .i64 (7)], [.i .i64 (4), .i .i64 (7), .i .i64 (6)], [.i .i64 (0), .i .i64 (1), .i .i64 (5)], [.i .i64 (0), .i .i64 (5), .i .i64 (4)], [.i .i64 (2), .i .i64 (6), .i .i64 (7)], [.i .i64 (2), .i .i64 (7), .i .i64 (3)], [.i .i64 (0), .i .i64 (4), .i .i64 (6)], [.i .i64 (0), .i .i64 (6), .i .i64 (2)], [.i .i64 (1), .i .i64 (3), .i .i64 (7)], [.i .i64 (1), .i .i64 (7), .i .i64 (5)]]], .i .i64 (0)])]
theorem subok9 : SubOk Try.prog 9 sub9 := ⟨((runF_ok mix tbl_ok kn_ok 5000).2 9 _ _ sub_0).1, trivial⟩
def sub14 : List (List V × V) := [([.l 2 [[.i .i64 0, .i .i64 0], [.i .i64 2, .i .i64 0], [.i .i64 0, .i .i64 2]], .i .i64 0, .i .i64 1], .t [.a [.l 3 [[.i .i64 (0), .i .i64 (0), .i .i64 (0)], [.i .i64 (2), .i .i64 (0), .i .i64 (0)], [.i .i64 (0), .i .i64 (2), .i .i64 (0)], [.i .i64 (0), .i .i64 (0), .i .i64 (1)], [.i .i64 (2), .i .i64 (0), .i .i64 (1)], [.i .i64 (0), .i .i64 (2), .i .i64 (1)]], .l 3 [[.i .i64 (0), .i .i64 (2), .i .i64 (1)], [.i .i64 (3), .i .i64 (4), .i .i64 (5)], [.i .i64 (0), .i .i64 (1), .i .i64 (4)], [.i .i64 (0), .i .i64 (4), .i .i64 (3)], [.i .i64 (1), .i .i64 (2), .i .i64 (5)], [.i .i64 (1), .i .i64 (5), .i .i64 (4)], [.i .i64 (2), .i .i64 (0), .i .i64 (3)], [.i .i64 (2), .i .i64 (3), .i .i64 (5)]]], .i .i64 (0)]), ([.l 2 [[.i .i64 0, .i .i64 0], [.i .i64 0, .i .i64 2], [.i .i64 2, .i .i64 0]], .i .i64 0, .i .i64 1], .t [.a [.nil, .nil], .i .i64 (1)])]
theorem subok14 : SubOk Try.prog 14 sub14 := ⟨((runF_ok mix tbl_ok kn_ok 5000).2 14 _ _ sub_1).1, ((runF_ok mix tbl_ok kn_ok 5000).2 14 _ _ sub_3).1, trivial⟩
def sub16 : List (List V × V) := [([.l 2 [[.i .i64 0, .i .i64 0], [.i .i64 2, .i .i64 0], [.i .i64 0, .i .i64 2]], .i .i64 0, .a [.i .i64 (0), .i .i64 (0), .i .i64 (3)]], .t [.a [.l 3 [[.i .i64 (0), .i .i64 (0), .i .i64 (0)], [.i .i64 (2), .i .i64 (0), .i .i64 (0)], [.i .i64 (0), .i .i64 (2), .i .i64 (0)], [.i .i64 (0), .i .i64 (0), .i .i64 (3)]], .l 3 [[.i .i64 (0), .i .i64 (2), .i .i64 (1)], [.i .i64 (0), .i .i64 (1), .i .i64 (3)], [.i .i64 (1), .i .i64 (2), .i .i64 (3)], [.i .i64 (2), .i .i64 (0), .i .i64 (3)]]], .i .i64 (0)])]
theorem subok16 : SubOk Try.prog 16 sub16 := ⟨((runF_ok mix tbl_ok kn_ok 5000).2 16 _ _ sub_2).1, trivial⟩
def sub30 : List (List V × V) := [([.a [.l 3 [[.i .i64 (0), .i .i64 (0), .i .i64 (0)], [.i .i64 (1), .i .i64 (0), .i .i64 (0)], [.i .i64 (0), .i .i64 (2), .i .i64 (0)], [.i .i64 (1), .i .i64 (2), .i .i64 (0)], [.i .i64 (0), .i .i64 (0), .i .i64 (3)], [.i .i64 (1), .i .i64 (0), .i .i64 (3)], [.i .i64 (0), .i .i64 (2), .i .i64 (3)], [.i .i64 (1), .i .i64 (2), .i .i64 (3)]], .l 3 [[.i .i64 (0), .i .i64 (2), .i .i64 (3)], [.i .i64 (0), .i .i64 (3), .i .i64 (1)], [.i .i64 (4), .i .i64 (5), .i .i64 (7)], [.i .i64 (4), .i .i64 (7), .i .i64 (6)], [.i .i64 (0), .i .i64 (1), .i .i64 (5)], [.i .i64 (0), .i .i64 (5), .i .i64 (4)], [.i .i64 (2), .i .i64 (6), .i .i64 (7)], [.i .i64 (2), .i .i64 (7), .i .i64 (3)], [.i .i64 (0), .i .i64 (4), .i .i64 (6)], [.i .i64 (0), .i .i64 (6), .i .i64 (2)], [.i .i64 (1), .i .i64 (3), .i .i64 (7)], [.i .i64 (1), .i .i64 (7), .i .i64 (5)]]]], .i .i64 (36)), ([.a [.l 3 [[.i .i64 (0), .i .i64 (0), .i .i64 (0)], [.i .i64 (2), .i .i64 (0), .i .i64 (0)], [.i .i64 (0), .i .i64 (2), .i .i64 (0)], [.i .i64 (0), .i .i64 (0), .i .i64 (1)], [.i .i64 (2), .i .i64 (0), .i .i64 (1)], [.i .i64 (0), .i .i64 (2), .i .i64 (1)]], .l 3 [[.i .i64 (0), .i .i64 (2), .i .i64 (1)], [.i .i64 (3), .i .i64 (4), .i .i64 (5)], [.i .i64 (0), .i .i64 (1), .i .i64 (4)], [.i .i64 (0), .i .i64 (4), .i .i64 (3)], [.i .i64 (1), .i .i64 (2), .i .i64 (5)], [.i .i64 (1), .i .i64 (5), .i .i64 (4)], [.i .i64 (2), .i .i64 (0), .i .i64 (3)], [.i .i64 (2), .i .i64 (3), .i .i64 (5)]]]], .i .i64 (12)), ([.a [.l 3 [[.i .i64 (0), .i .i64 (0), .i .i64 (0)], [.i .i64 (2), .i .i64 (0), .i .i64 (0)], [.i .i64 (0), .i .i64 (2), .i .i64 (0)], [.i .i64 (0), .i .i64 (0), .i .i64 (3)]], .l 3 [[.i .i64 (0), .i .i64 (2), .i .i64 (1)], [.i .i64 (0), .i .i64 (1), .i .i64 (3)], [.i .i64 (1), .i .i64 (2), .i .i64 (3)], [.i .i64 (2), .i .i64 (0), .i .i64 (3)]]]], .i .i64 (12))]
theorem subok30 : SubOk Try.prog 30 sub30 := ⟨((runF_ok mix tbl_ok kn_ok 5000).2 30 _ _ sub_4).1, ((runF_ok mix tbl_ok kn_ok 5000).2 30 _ _ sub_5).1, ((runF_ok mix tbl_ok kn_ok 5000).2 30 _ _ sub_6).1, trivial⟩
def kns : Known
  | 9, vs => subK sub9 vs
  | 14, vs => subK sub14 vs
  | 16, vs => subK sub16 vs
  | 30, vs => subK sub30 vs
  | _, _ => none
def kn2 : Known := fun f vs => match kns f vs with
  | some p => some p
  | none => kn f vs
theorem kn2_ok : KnOk Try.prog kn2 := by
  intro f vs r0 h0 h
  unfold kn2 at h
  split at h
  · rename_i p hp
    obtain rfl := Option.some.inj h
    unfold kns at hp
    split at hp
    · exact ⟨subK_ok subok9 hp, by kernel_rfl⟩
    · exact ⟨subK_ok subok14 hp, by kernel_rfl⟩
    · exact ⟨subK_ok subok16 hp, by kernel_rfl⟩
    · exact ⟨subK_ok subok30 hp, by kernel_rfl⟩
    · simp at hp
  · exact kn_ok _ _ _ _ h
theorem awake_run : isT (runP tbl kn2 5000 12 []) = true := by kernel_rfl
theorem awake_ok : AwakeC Try.prog 12 := PureC.is ((runF_ok mix tbl_ok kn2_ok 5000).2 12 [] _ (isT_ok awake_run)).1 rfl
end Go.Proofs.Ytoppidobgkgiiaa
