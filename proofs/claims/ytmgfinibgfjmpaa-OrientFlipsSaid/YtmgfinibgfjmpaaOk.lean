/- The program's functions are those whose code the library's texts hold. -/
import Derived.Test.YtmgfinibgfjmpaaRows
import Derived.Test.YtmgfinibgfjmpaaGoOriA
set_option linter.unusedVariables false
set_option linter.unusedSimpArgs false
namespace Go.Proofs.Ytmgfinibgfjmpaa
open Go.Abs

theorem ok_vec_Valid : FnOk Try.prog 39 (vec_Valid.c 55) vec_Valid.r vec_Valid.n := ⟨Try.f39, (Try.f39.body).getD .skip, Try.func39, rfl, by kernel_rfl, by kernel_rfl, rfl⟩
theorem ok_vec_within : FnOk Try.prog 55 vec_within.c vec_within.r vec_within.n := ⟨Try.f55, (Try.f55.body).getD .skip, Try.func55, rfl, by kernel_rfl, by kernel_rfl, rfl⟩
theorem ok_mesh_Check : FnOk Try.prog 17 (mesh_Check.c 39) mesh_Check.r mesh_Check.n := ⟨Try.f17, (Try.f17.body).getD .skip, Try.func17, rfl, by kernel_rfl, by kernel_rfl, rfl⟩
theorem ok_slices_Clone_api_Tri_api_Tri : FnOk Try.prog 30 slices_Clone_api_Tri_api_Tri.c slices_Clone_api_Tri_api_Tri.r slices_Clone_api_Tri_api_Tri.n := ⟨Try.f30, (Try.f30.body).getD .skip, Try.func30, rfl, by kernel_rfl, by kernel_rfl, rfl⟩
theorem ok_slices_Clone_api_Vec_api_Vec : FnOk Try.prog 36 slices_Clone_api_Vec_api_Vec.c slices_Clone_api_Vec_api_Vec.r slices_Clone_api_Vec_api_Vec.n := ⟨Try.f36, (Try.f36.body).getD .skip, Try.func36, rfl, by kernel_rfl, by kernel_rfl, rfl⟩
theorem ok_law11_Small : FnOk Try.prog 10 law11_Small.c law11_Small.r law11_Small.n := ⟨Try.f10, (Try.f10.body).getD .skip, Try.func10, rfl, by kernel_rfl, by kernel_rfl, rfl⟩
theorem ok_orient_Coherent : FnOk Try.prog 11 (orient_Coherent.c 17 26) orient_Coherent.r orient_Coherent.n := ⟨Try.f11, (Try.f11.body).getD .skip, Try.func11, rfl, by kernel_rfl, by kernel_rfl, rfl⟩
theorem ok_orient_coherent : FnOk Try.prog 26 (orient_coherent.c 31) orient_coherent.r orient_coherent.n := ⟨Try.f26, (Try.f26.body).getD .skip, Try.func26, rfl, by kernel_rfl, by kernel_rfl, rfl⟩
theorem ok_orient_edges : FnOk Try.prog 31 orient_edges.c orient_edges.r orient_edges.n := ⟨Try.f31, (Try.f31.body).getD .skip, Try.func31, rfl, by kernel_rfl, by kernel_rfl, rfl⟩
theorem ok_law11_awake : FnOk Try.prog 13 (law11_awake.c 29 14 11) law11_awake.r law11_awake.n := ⟨Try.f13, (Try.f13.body).getD .skip, Try.func13, rfl, by kernel_rfl, by kernel_rfl, rfl⟩
theorem ok_law11_two : FnOk Try.prog 29 law11_two.c law11_two.r law11_two.n := ⟨Try.f29, (Try.f29.body).getD .skip, Try.func29, rfl, by kernel_rfl, by kernel_rfl, rfl⟩
theorem ok_orient_Orient : FnOk Try.prog 14 (orient_Orient.c 17 30 31 32 33 26 36) orient_Orient.r orient_Orient.n := ⟨Try.f14, (Try.f14.body).getD .skip, Try.func14, rfl, by kernel_rfl, by kernel_rfl, rfl⟩
theorem ok_orient_both : FnOk Try.prog 32 orient_both.c orient_both.r orient_both.n := ⟨Try.f32, (Try.f32.body).getD .skip, Try.func32, rfl, by kernel_rfl, by kernel_rfl, rfl⟩
theorem ok_orient_Orient_1 : FnOk Try.prog 33 (orient_Orient_1.c 31 34 35) orient_Orient_1.r orient_Orient_1.n := ⟨Try.f33, (Try.f33.body).getD .skip, Try.func33, rfl, by kernel_rfl, by kernel_rfl, rfl⟩
theorem ok_slices_Contains_api_Edge_api_Edge : FnOk Try.prog 34 (slices_Contains_api_Edge_api_Edge.c 52) slices_Contains_api_Edge_api_Edge.r slices_Contains_api_Edge_api_Edge.n := ⟨Try.f34, (Try.f34.body).getD .skip, Try.func34, rfl, by kernel_rfl, by kernel_rfl, rfl⟩
theorem ok_slices_Index_api_Edge_api_Edge : FnOk Try.prog 52 slices_Index_api_Edge_api_Edge.c slices_Index_api_Edge_api_Edge.r slices_Index_api_Edge_api_Edge.n := ⟨Try.f52, (Try.f52.body).getD .skip, Try.func52, rfl, by kernel_rfl, by kernel_rfl, rfl⟩
theorem ok_orient_reversed : FnOk Try.prog 35 orient_reversed.c orient_reversed.r orient_reversed.n := ⟨Try.f35, (Try.f35.body).getD .skip, Try.func35, rfl, by kernel_rfl, by kernel_rfl, rfl⟩

end Go.Proofs.Ytmgfinibgfjmpaa
