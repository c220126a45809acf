/- The program's functions are those whose code the library's texts hold. -/
import Derived.Test.YtoppidobgkgiiaaRows
import Derived.Test.YtoppidobgkgiiaaGoShp
set_option linter.unusedVariables false
set_option linter.unusedSimpArgs false
namespace Go.Proofs.Ytoppidobgkgiiaa
open Go.Abs

theorem ok_vec_Valid : FnOk Try.prog 62 (vec_Valid.c 76) vec_Valid.r vec_Valid.n := ⟨Try.f62, (Try.f62.body).getD .skip, Try.func62, rfl, by kernel_rfl, by kernel_rfl, rfl⟩
theorem ok_vec_within : FnOk Try.prog 76 vec_within.c vec_within.r vec_within.n := ⟨Try.f76, (Try.f76.body).getD .skip, Try.func76, rfl, by kernel_rfl, by kernel_rfl, rfl⟩
theorem ok_mesh_Check : FnOk Try.prog 27 (mesh_Check.c 62) mesh_Check.r mesh_Check.n := ⟨Try.f27, (Try.f27.body).getD .skip, Try.func27, rfl, by kernel_rfl, by kernel_rfl, rfl⟩
theorem ok_shapes_Box : FnOk Try.prog 9 (shapes_Box.c 33 34 35 36 37) shapes_Box.r shapes_Box.n := ⟨Try.f9, (Try.f9.body).getD .skip, Try.func9, rfl, by kernel_rfl, by kernel_rfl, rfl⟩
theorem ok_law13_awake : FnOk Try.prog 12 (law13_awake.c 9 40 14 16 21 30) law13_awake.r law13_awake.n := ⟨Try.f12, (Try.f12.body).getD .skip, Try.func12, rfl, by kernel_rfl, by kernel_rfl, rfl⟩
theorem ok_law13_cut : FnOk Try.prog 13 law13_cut.c law13_cut.r law13_cut.n := ⟨Try.f13, (Try.f13.body).getD .skip, Try.func13, rfl, by kernel_rfl, by kernel_rfl, rfl⟩
theorem ok_shapes_Prism : FnOk Try.prog 14 (shapes_Prism.c 41 42 43) shapes_Prism.r shapes_Prism.n := ⟨Try.f14, (Try.f14.body).getD .skip, Try.func14, rfl, by kernel_rfl, by kernel_rfl, rfl⟩
theorem ok_shapes_Pyramid : FnOk Try.prog 16 (shapes_Pyramid.c 41 42 43) shapes_Pyramid.r shapes_Pyramid.n := ⟨Try.f16, (Try.f16.body).getD .skip, Try.func16, rfl, by kernel_rfl, by kernel_rfl, rfl⟩
theorem ok_shapes_Turn : FnOk Try.prog 21 (shapes_Turn.c 27 49 53 54) shapes_Turn.r shapes_Turn.n := ⟨Try.f21, (Try.f21.body).getD .skip, Try.func21, rfl, by kernel_rfl, by kernel_rfl, rfl⟩
theorem ok_shapes_fits : FnOk Try.prog 33 (shapes_fits.c 62) shapes_fits.r shapes_fits.n := ⟨Try.f33, (Try.f33.body).getD .skip, Try.func33, rfl, by kernel_rfl, by kernel_rfl, rfl⟩
theorem ok_shapes_near : FnOk Try.prog 34 shapes_near.c shapes_near.r shapes_near.n := ⟨Try.f34, (Try.f34.body).getD .skip, Try.func34, rfl, by kernel_rfl, by kernel_rfl, rfl⟩
theorem ok_shapes_plus : FnOk Try.prog 35 shapes_plus.c shapes_plus.r shapes_plus.n := ⟨Try.f35, (Try.f35.body).getD .skip, Try.func35, rfl, by kernel_rfl, by kernel_rfl, rfl⟩
theorem ok_shapes_corners : FnOk Try.prog 36 (shapes_corners.c 35) shapes_corners.r shapes_corners.n := ⟨Try.f36, (Try.f36.body).getD .skip, Try.func36, rfl, by kernel_rfl, by kernel_rfl, rfl⟩
theorem ok_slices_Clone_api_Vec_api_Vec : FnOk Try.prog 37 slices_Clone_api_Vec_api_Vec.c slices_Clone_api_Vec_api_Vec.r slices_Clone_api_Vec_api_Vec.n := ⟨Try.f37, (Try.f37.body).getD .skip, Try.func37, rfl, by kernel_rfl, by kernel_rfl, rfl⟩
theorem ok_law13_corner : FnOk Try.prog 40 law13_corner.c law13_corner.r law13_corner.n := ⟨Try.f40, (Try.f40.body).getD .skip, Try.func40, rfl, by kernel_rfl, by kernel_rfl, rfl⟩
theorem ok_shapes_level : FnOk Try.prog 41 shapes_level.c shapes_level.r shapes_level.n := ⟨Try.f41, (Try.f41.body).getD .skip, Try.func41, rfl, by kernel_rfl, by kernel_rfl, rfl⟩
theorem ok_shapes_bottom : FnOk Try.prog 42 shapes_bottom.c shapes_bottom.r shapes_bottom.n := ⟨Try.f42, (Try.f42.body).getD .skip, Try.func42, rfl, by kernel_rfl, by kernel_rfl, rfl⟩
theorem ok_shapes_solid : FnOk Try.prog 43 (shapes_solid.c 33 70) shapes_solid.r shapes_solid.n := ⟨Try.f43, (Try.f43.body).getD .skip, Try.func43, rfl, by kernel_rfl, by kernel_rfl, rfl⟩
theorem ok_shapes_change : FnOk Try.prog 49 (shapes_change.c 37 72) shapes_change.r shapes_change.n := ⟨Try.f49, (Try.f49.body).getD .skip, Try.func49, rfl, by kernel_rfl, by kernel_rfl, rfl⟩
theorem ok_shapes_Turn_1 : FnOk Try.prog 53 shapes_Turn_1.c shapes_Turn_1.r shapes_Turn_1.n := ⟨Try.f53, (Try.f53.body).getD .skip, Try.func53, rfl, by kernel_rfl, by kernel_rfl, rfl⟩
theorem ok_shapes_Turn_2 : FnOk Try.prog 54 shapes_Turn_2.c shapes_Turn_2.r shapes_Turn_2.n := ⟨Try.f54, (Try.f54.body).getD .skip, Try.func54, rfl, by kernel_rfl, by kernel_rfl, rfl⟩
theorem ok_shapes_convex : FnOk Try.prog 70 (shapes_convex.c 89) shapes_convex.r shapes_convex.n := ⟨Try.f70, (Try.f70.body).getD .skip, Try.func70, rfl, by kernel_rfl, by kernel_rfl, rfl⟩
theorem ok_slices_Clone_api_Tri_api_Tri : FnOk Try.prog 72 slices_Clone_api_Tri_api_Tri.c slices_Clone_api_Tri_api_Tri.r slices_Clone_api_Tri_api_Tri.n := ⟨Try.f72, (Try.f72.body).getD .skip, Try.func72, rfl, by kernel_rfl, by kernel_rfl, rfl⟩
theorem ok_planar_Turn : FnOk Try.prog 89 (planar_Turn.c 97) planar_Turn.r planar_Turn.n := ⟨Try.f89, (Try.f89.body).getD .skip, Try.func89, rfl, by kernel_rfl, by kernel_rfl, rfl⟩
theorem ok_planar_Cross : FnOk Try.prog 97 (planar_Cross.c 68) planar_Cross.r planar_Cross.n := ⟨Try.f97, (Try.f97.body).getD .skip, Try.func97, rfl, by kernel_rfl, by kernel_rfl, rfl⟩
theorem ok_planar_Valid : FnOk Try.prog 68 planar_Valid.c planar_Valid.r planar_Valid.n := ⟨Try.f68, (Try.f68.body).getD .skip, Try.func68, rfl, by kernel_rfl, by kernel_rfl, rfl⟩
theorem ok_vec_Det : FnOk Try.prog 64 (vec_Det.c 81 83 82) vec_Det.r vec_Det.n := ⟨Try.f64, (Try.f64.body).getD .skip, Try.func64, rfl, by kernel_rfl, by kernel_rfl, rfl⟩
theorem ok_vec_small : FnOk Try.prog 81 (vec_small.c 76) vec_small.r vec_small.n := ⟨Try.f81, (Try.f81.body).getD .skip, Try.func81, rfl, by kernel_rfl, by kernel_rfl, rfl⟩
theorem ok_vec_Dot : FnOk Try.prog 82 (vec_Dot.c 81 76) vec_Dot.r vec_Dot.n := ⟨Try.f82, (Try.f82.body).getD .skip, Try.func82, rfl, by kernel_rfl, by kernel_rfl, rfl⟩
theorem ok_vec_Cross : FnOk Try.prog 83 (vec_Cross.c 81) vec_Cross.r vec_Cross.n := ⟨Try.f83, (Try.f83.body).getD .skip, Try.func83, rfl, by kernel_rfl, by kernel_rfl, rfl⟩
theorem ok_mesh_Volume6 : FnOk Try.prog 30 (mesh_Volume6.c 27 64) mesh_Volume6.r mesh_Volume6.n := ⟨Try.f30, (Try.f30.body).getD .skip, Try.func30, rfl, by kernel_rfl, by kernel_rfl, rfl⟩

end Go.Proofs.Ytoppidobgkgiiaa
