/- The program's functions are those whose code the library's texts hold. -/
import Derived.Test.YtoppidobgkgiiaaRows
import Derived.Test.YtoppidobgkgiiaaGoShp
set_option linter.unusedVariables false
set_option linter.unusedSimpArgs false
namespace Go.Proofs.Ytoppidobgkgiiaa
open Go.Abs

theorem ok_vec_Valid : FnOk Try.prog 62 (vec_Valid.c 76) vec_Valid.r vec_Valid.n := ⟨Try.f62, (Try.f62.body).getD .skip, Try.func62, rfl, by kernel_rfl, by kernel_rfl, rfl⟩
theorem ok_vec_within : FnOk Try.prog 76 vec_within.c vec_within.r vec_within.n := ⟨Try.f76, (Try.f76.body).getD .skip, Try.func76, rfl, by kernel_rfl, by kernel_rfl, rfl⟩
theorem ok_ref04_Valid : FnOk Try.prog 39 (ref04_Valid.c 69) ref04_Valid.r ref04_Valid.n := ⟨Try.f39, (Try.f39.body).getD .skip, Try.func39, rfl, by kernel_rfl, by kernel_rfl, rfl⟩
theorem ok_ref04_within : FnOk Try.prog 69 ref04_within.c ref04_within.r ref04_within.n := ⟨Try.f69, (Try.f69.body).getD .skip, Try.func69, rfl, by kernel_rfl, by kernel_rfl, rfl⟩
theorem ok_mesh_Check : FnOk Try.prog 27 (mesh_Check.c 62) mesh_Check.r mesh_Check.n := ⟨Try.f27, (Try.f27.body).getD .skip, Try.func27, rfl, by kernel_rfl, by kernel_rfl, rfl⟩
theorem ok_ref07_Check : FnOk Try.prog 51 (ref07_Check.c 39) ref07_Check.r ref07_Check.n := ⟨Try.f51, (Try.f51.body).getD .skip, Try.func51, rfl, by kernel_rfl, by kernel_rfl, rfl⟩
theorem ok_mesh_Reverse : FnOk Try.prog 59 (mesh_Reverse.c 27) mesh_Reverse.r mesh_Reverse.n := ⟨Try.f59, (Try.f59.body).getD .skip, Try.func59, rfl, by kernel_rfl, by kernel_rfl, rfl⟩
theorem ok_num_Round : FnOk Try.prog 56 (num_Round.c 73) num_Round.r num_Round.n := ⟨Try.f56, (Try.f56.body).getD .skip, Try.func56, rfl, by kernel_rfl, by kernel_rfl, rfl⟩
theorem ok_num_Floor : FnOk Try.prog 73 num_Floor.c num_Floor.r num_Floor.n := ⟨Try.f73, (Try.f73.body).getD .skip, Try.func73, rfl, by kernel_rfl, by kernel_rfl, rfl⟩
theorem ok_law13_ShapesBoxes : FnOk Try.prog 3 (law13_ShapesBoxes.c 9 10 11 12) law13_ShapesBoxes.r law13_ShapesBoxes.n := ⟨Try.f3, (Try.f3.body).getD .skip, Try.func3, rfl, by kernel_rfl, by kernel_rfl, rfl⟩
theorem ok_law13_ShapesBases : FnOk Try.prog 4 (law13_ShapesBases.c 13 14 15 16 17 11 12) law13_ShapesBases.r law13_ShapesBases.n := ⟨Try.f4, (Try.f4.body).getD .skip, Try.func4, rfl, by kernel_rfl, by kernel_rfl, rfl⟩
theorem ok_law13_ShapesMoves : FnOk Try.prog 5 (law13_ShapesMoves.c 18 12 19 20 21 22 11) law13_ShapesMoves.r law13_ShapesMoves.n := ⟨Try.f5, (Try.f5.body).getD .skip, Try.func5, rfl, by kernel_rfl, by kernel_rfl, rfl⟩
theorem ok_law13_ShapesScales : FnOk Try.prog 6 (law13_ShapesScales.c 18 12 23 24 25 26 11) law13_ShapesScales.r law13_ShapesScales.n := ⟨Try.f6, (Try.f6.body).getD .skip, Try.func6, rfl, by kernel_rfl, by kernel_rfl, rfl⟩
theorem ok_shapes_Box : FnOk Try.prog 9 (shapes_Box.c 33 34 35 36 37) shapes_Box.r shapes_Box.n := ⟨Try.f9, (Try.f9.body).getD .skip, Try.func9, rfl, by kernel_rfl, by kernel_rfl, rfl⟩
theorem ok_ref13_Box : FnOk Try.prog 10 (ref13_Box.c 38 39) ref13_Box.r ref13_Box.n := ⟨Try.f10, (Try.f10.body).getD .skip, Try.func10, rfl, by kernel_rfl, by kernel_rfl, rfl⟩
theorem ok_ref07_Same : FnOk Try.prog 11 ref07_Same.c ref07_Same.r ref07_Same.n := ⟨Try.f11, (Try.f11.body).getD .skip, Try.func11, rfl, by kernel_rfl, by kernel_rfl, rfl⟩
theorem ok_law13_awake : FnOk Try.prog 12 (law13_awake.c 9 40 14 16 21 30) law13_awake.r law13_awake.n := ⟨Try.f12, (Try.f12.body).getD .skip, Try.func12, rfl, by kernel_rfl, by kernel_rfl, rfl⟩
theorem ok_law13_cut : FnOk Try.prog 13 law13_cut.c law13_cut.r law13_cut.n := ⟨Try.f13, (Try.f13.body).getD .skip, Try.func13, rfl, by kernel_rfl, by kernel_rfl, rfl⟩
theorem ok_shapes_Prism : FnOk Try.prog 14 (shapes_Prism.c 41 42 43) shapes_Prism.r shapes_Prism.n := ⟨Try.f14, (Try.f14.body).getD .skip, Try.func14, rfl, by kernel_rfl, by kernel_rfl, rfl⟩
theorem ok_ref13_Prism : FnOk Try.prog 15 (ref13_Prism.c 44 45 46 47) ref13_Prism.r ref13_Prism.n := ⟨Try.f15, (Try.f15.body).getD .skip, Try.func15, rfl, by kernel_rfl, by kernel_rfl, rfl⟩
theorem ok_shapes_Pyramid : FnOk Try.prog 16 (shapes_Pyramid.c 41 42 43) shapes_Pyramid.r shapes_Pyramid.n := ⟨Try.f16, (Try.f16.body).getD .skip, Try.func16, rfl, by kernel_rfl, by kernel_rfl, rfl⟩
theorem ok_ref13_Pyramid : FnOk Try.prog 17 (ref13_Pyramid.c 45 46 47) ref13_Pyramid.r ref13_Pyramid.n := ⟨Try.f17, (Try.f17.body).getD .skip, Try.func17, rfl, by kernel_rfl, by kernel_rfl, rfl⟩
theorem ok_law13_heavy : FnOk Try.prog 18 law13_heavy.c law13_heavy.r law13_heavy.n := ⟨Try.f18, (Try.f18.body).getD .skip, Try.func18, rfl, by kernel_rfl, by kernel_rfl, rfl⟩
theorem ok_shapes_Move : FnOk Try.prog 19 (shapes_Move.c 27 34 50 49 48) shapes_Move.r shapes_Move.n := ⟨Try.f19, (Try.f19.body).getD .skip, Try.func19, rfl, by kernel_rfl, by kernel_rfl, rfl⟩
theorem ok_ref13_Move : FnOk Try.prog 20 (ref13_Move.c 51 38 52) ref13_Move.r ref13_Move.n := ⟨Try.f20, (Try.f20.body).getD .skip, Try.func20, rfl, by kernel_rfl, by kernel_rfl, rfl⟩
theorem ok_shapes_Turn : FnOk Try.prog 21 (shapes_Turn.c 27 49 53 54) shapes_Turn.r shapes_Turn.n := ⟨Try.f21, (Try.f21.body).getD .skip, Try.func21, rfl, by kernel_rfl, by kernel_rfl, rfl⟩
theorem ok_ref13_Turn : FnOk Try.prog 22 (ref13_Turn.c 51 52) ref13_Turn.r ref13_Turn.n := ⟨Try.f22, (Try.f22.body).getD .skip, Try.func22, rfl, by kernel_rfl, by kernel_rfl, rfl⟩
theorem ok_shapes_Scale : FnOk Try.prog 23 (shapes_Scale.c 27 55 57 49 48) shapes_Scale.r shapes_Scale.n := ⟨Try.f23, (Try.f23.body).getD .skip, Try.func23, rfl, by kernel_rfl, by kernel_rfl, rfl⟩
theorem ok_ref13_Scale : FnOk Try.prog 24 (ref13_Scale.c 51 58 46 52) ref13_Scale.r ref13_Scale.n := ⟨Try.f24, (Try.f24.body).getD .skip, Try.func24, rfl, by kernel_rfl, by kernel_rfl, rfl⟩
theorem ok_shapes_Mirror : FnOk Try.prog 25 (shapes_Mirror.c 27 59 49 60) shapes_Mirror.r shapes_Mirror.n := ⟨Try.f25, (Try.f25.body).getD .skip, Try.func25, rfl, by kernel_rfl, by kernel_rfl, rfl⟩
theorem ok_ref13_Mirror : FnOk Try.prog 26 (ref13_Mirror.c 51 61) ref13_Mirror.r ref13_Mirror.n := ⟨Try.f26, (Try.f26.body).getD .skip, Try.func26, rfl, by kernel_rfl, by kernel_rfl, rfl⟩
theorem ok_shapes_fits : FnOk Try.prog 33 (shapes_fits.c 62) shapes_fits.r shapes_fits.n := ⟨Try.f33, (Try.f33.body).getD .skip, Try.func33, rfl, by kernel_rfl, by kernel_rfl, rfl⟩
theorem ok_shapes_near : FnOk Try.prog 34 shapes_near.c shapes_near.r shapes_near.n := ⟨Try.f34, (Try.f34.body).getD .skip, Try.func34, rfl, by kernel_rfl, by kernel_rfl, rfl⟩
theorem ok_shapes_plus : FnOk Try.prog 35 shapes_plus.c shapes_plus.r shapes_plus.n := ⟨Try.f35, (Try.f35.body).getD .skip, Try.func35, rfl, by kernel_rfl, by kernel_rfl, rfl⟩
theorem ok_shapes_corners : FnOk Try.prog 36 (shapes_corners.c 35) shapes_corners.r shapes_corners.n := ⟨Try.f36, (Try.f36.body).getD .skip, Try.func36, rfl, by kernel_rfl, by kernel_rfl, rfl⟩
theorem ok_slices_Clone_api_Vec_api_Vec : FnOk Try.prog 37 slices_Clone_api_Vec_api_Vec.c slices_Clone_api_Vec_api_Vec.r slices_Clone_api_Vec_api_Vec.n := ⟨Try.f37, (Try.f37.body).getD .skip, Try.func37, rfl, by kernel_rfl, by kernel_rfl, rfl⟩
theorem ok_ref13_sums : FnOk Try.prog 38 (ref13_sums.c 44 39) ref13_sums.r ref13_sums.n := ⟨Try.f38, (Try.f38.body).getD .skip, Try.func38, rfl, by kernel_rfl, by kernel_rfl, rfl⟩
theorem ok_law13_corner : FnOk Try.prog 40 law13_corner.c law13_corner.r law13_corner.n := ⟨Try.f40, (Try.f40.body).getD .skip, Try.func40, rfl, by kernel_rfl, by kernel_rfl, rfl⟩
theorem ok_shapes_level : FnOk Try.prog 41 shapes_level.c shapes_level.r shapes_level.n := ⟨Try.f41, (Try.f41.body).getD .skip, Try.func41, rfl, by kernel_rfl, by kernel_rfl, rfl⟩
theorem ok_shapes_bottom : FnOk Try.prog 42 shapes_bottom.c shapes_bottom.r shapes_bottom.n := ⟨Try.f42, (Try.f42.body).getD .skip, Try.func42, rfl, by kernel_rfl, by kernel_rfl, rfl⟩
theorem ok_shapes_solid : FnOk Try.prog 43 (shapes_solid.c 33 70) shapes_solid.r shapes_solid.n := ⟨Try.f43, (Try.f43.body).getD .skip, Try.func43, rfl, by kernel_rfl, by kernel_rfl, rfl⟩
theorem ok_ref01_Add : FnOk Try.prog 44 ref01_Add.c ref01_Add.r ref01_Add.n := ⟨Try.f44, (Try.f44.body).getD .skip, Try.func44, rfl, by kernel_rfl, by kernel_rfl, rfl⟩
theorem ok_ref13_at : FnOk Try.prog 45 ref13_at.c ref13_at.r ref13_at.n := ⟨Try.f45, (Try.f45.body).getD .skip, Try.func45, rfl, by kernel_rfl, by kernel_rfl, rfl⟩
theorem ok_ref13_valid : FnOk Try.prog 46 (ref13_valid.c 39) ref13_valid.r ref13_valid.n := ⟨Try.f46, (Try.f46.body).getD .skip, Try.func46, rfl, by kernel_rfl, by kernel_rfl, rfl⟩
theorem ok_ref13_Convex : FnOk Try.prog 47 (ref13_Convex.c 71) ref13_Convex.r ref13_Convex.n := ⟨Try.f47, (Try.f47.body).getD .skip, Try.func47, rfl, by kernel_rfl, by kernel_rfl, rfl⟩
theorem ok_shapes_checked : FnOk Try.prog 48 (shapes_checked.c 33) shapes_checked.r shapes_checked.n := ⟨Try.f48, (Try.f48.body).getD .skip, Try.func48, rfl, by kernel_rfl, by kernel_rfl, rfl⟩
theorem ok_shapes_change : FnOk Try.prog 49 (shapes_change.c 37 72) shapes_change.r shapes_change.n := ⟨Try.f49, (Try.f49.body).getD .skip, Try.func49, rfl, by kernel_rfl, by kernel_rfl, rfl⟩
theorem ok_shapes_Move_1 : FnOk Try.prog 50 (shapes_Move_1.c 35) shapes_Move_1.r shapes_Move_1.n := ⟨Try.f50, (Try.f50.body).getD .skip, Try.func50, rfl, by kernel_rfl, by kernel_rfl, rfl⟩
theorem ok_ref13_with : FnOk Try.prog 52 ref13_with.c ref13_with.r ref13_with.n := ⟨Try.f52, (Try.f52.body).getD .skip, Try.func52, rfl, by kernel_rfl, by kernel_rfl, rfl⟩
theorem ok_shapes_Turn_1 : FnOk Try.prog 53 shapes_Turn_1.c shapes_Turn_1.r shapes_Turn_1.n := ⟨Try.f53, (Try.f53.body).getD .skip, Try.func53, rfl, by kernel_rfl, by kernel_rfl, rfl⟩
theorem ok_shapes_Turn_2 : FnOk Try.prog 54 shapes_Turn_2.c shapes_Turn_2.r shapes_Turn_2.n := ⟨Try.f54, (Try.f54.body).getD .skip, Try.func54, rfl, by kernel_rfl, by kernel_rfl, rfl⟩
theorem ok_shapes_Scale_1 : FnOk Try.prog 55 (shapes_Scale_1.c 56) shapes_Scale_1.r shapes_Scale_1.n := ⟨Try.f55, (Try.f55.body).getD .skip, Try.func55, rfl, by kernel_rfl, by kernel_rfl, rfl⟩
theorem ok_shapes_Scale_2 : FnOk Try.prog 57 shapes_Scale_2.c shapes_Scale_2.r shapes_Scale_2.n := ⟨Try.f57, (Try.f57.body).getD .skip, Try.func57, rfl, by kernel_rfl, by kernel_rfl, rfl⟩
theorem ok_ref01_Round : FnOk Try.prog 58 (ref01_Round.c 74 75) ref01_Round.r ref01_Round.n := ⟨Try.f58, (Try.f58.body).getD .skip, Try.func58, rfl, by kernel_rfl, by kernel_rfl, rfl⟩
theorem ok_shapes_Mirror_1 : FnOk Try.prog 60 shapes_Mirror_1.c shapes_Mirror_1.r shapes_Mirror_1.n := ⟨Try.f60, (Try.f60.body).getD .skip, Try.func60, rfl, by kernel_rfl, by kernel_rfl, rfl⟩
theorem ok_ref07_Reverse : FnOk Try.prog 61 (ref07_Reverse.c 51) ref07_Reverse.r ref07_Reverse.n := ⟨Try.f61, (Try.f61.body).getD .skip, Try.func61, rfl, by kernel_rfl, by kernel_rfl, rfl⟩
theorem ok_shapes_convex : FnOk Try.prog 70 (shapes_convex.c 89) shapes_convex.r shapes_convex.n := ⟨Try.f70, (Try.f70.body).getD .skip, Try.func70, rfl, by kernel_rfl, by kernel_rfl, rfl⟩
theorem ok_ref05_Turn : FnOk Try.prog 71 (ref05_Turn.c 90) ref05_Turn.r ref05_Turn.n := ⟨Try.f71, (Try.f71.body).getD .skip, Try.func71, rfl, by kernel_rfl, by kernel_rfl, rfl⟩
theorem ok_slices_Clone_api_Tri_api_Tri : FnOk Try.prog 72 slices_Clone_api_Tri_api_Tri.c slices_Clone_api_Tri_api_Tri.r slices_Clone_api_Tri_api_Tri.n := ⟨Try.f72, (Try.f72.body).getD .skip, Try.func72, rfl, by kernel_rfl, by kernel_rfl, rfl⟩
theorem ok_ref01_Floor : FnOk Try.prog 74 ref01_Floor.c ref01_Floor.r ref01_Floor.n := ⟨Try.f74, (Try.f74.body).getD .skip, Try.func74, rfl, by kernel_rfl, by kernel_rfl, rfl⟩
theorem ok_ref01_size : FnOk Try.prog 75 ref01_size.c ref01_size.r ref01_size.n := ⟨Try.f75, (Try.f75.body).getD .skip, Try.func75, rfl, by kernel_rfl, by kernel_rfl, rfl⟩
theorem ok_planar_Turn : FnOk Try.prog 89 (planar_Turn.c 97) planar_Turn.r planar_Turn.n := ⟨Try.f89, (Try.f89.body).getD .skip, Try.func89, rfl, by kernel_rfl, by kernel_rfl, rfl⟩
theorem ok_planar_Cross : FnOk Try.prog 97 (planar_Cross.c 68) planar_Cross.r planar_Cross.n := ⟨Try.f97, (Try.f97.body).getD .skip, Try.func97, rfl, by kernel_rfl, by kernel_rfl, rfl⟩
theorem ok_planar_Valid : FnOk Try.prog 68 planar_Valid.c planar_Valid.r planar_Valid.n := ⟨Try.f68, (Try.f68.body).getD .skip, Try.func68, rfl, by kernel_rfl, by kernel_rfl, rfl⟩
theorem ok_ref05_Cross : FnOk Try.prog 90 (ref05_Cross.c 98) ref05_Cross.r ref05_Cross.n := ⟨Try.f90, (Try.f90.body).getD .skip, Try.func90, rfl, by kernel_rfl, by kernel_rfl, rfl⟩
theorem ok_ref05_Valid : FnOk Try.prog 98 ref05_Valid.c ref05_Valid.r ref05_Valid.n := ⟨Try.f98, (Try.f98.body).getD .skip, Try.func98, rfl, by kernel_rfl, by kernel_rfl, rfl⟩
theorem ok_vec_Det : FnOk Try.prog 64 (vec_Det.c 81 83 82) vec_Det.r vec_Det.n := ⟨Try.f64, (Try.f64.body).getD .skip, Try.func64, rfl, by kernel_rfl, by kernel_rfl, rfl⟩
theorem ok_vec_small : FnOk Try.prog 81 (vec_small.c 76) vec_small.r vec_small.n := ⟨Try.f81, (Try.f81.body).getD .skip, Try.func81, rfl, by kernel_rfl, by kernel_rfl, rfl⟩
theorem ok_vec_Dot : FnOk Try.prog 82 (vec_Dot.c 81 76) vec_Dot.r vec_Dot.n := ⟨Try.f82, (Try.f82.body).getD .skip, Try.func82, rfl, by kernel_rfl, by kernel_rfl, rfl⟩
theorem ok_vec_Cross : FnOk Try.prog 83 (vec_Cross.c 81) vec_Cross.r vec_Cross.n := ⟨Try.f83, (Try.f83.body).getD .skip, Try.func83, rfl, by kernel_rfl, by kernel_rfl, rfl⟩
theorem ok_mesh_Volume6 : FnOk Try.prog 30 (mesh_Volume6.c 27 64) mesh_Volume6.r mesh_Volume6.n := ⟨Try.f30, (Try.f30.body).getD .skip, Try.func30, rfl, by kernel_rfl, by kernel_rfl, rfl⟩

end Go.Proofs.Ytoppidobgkgiiaa
