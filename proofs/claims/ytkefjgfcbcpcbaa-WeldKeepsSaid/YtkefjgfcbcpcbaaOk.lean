/- The program's functions are those whose code the library's texts hold. -/
import Derived.Test.YtkefjgfcbcpcbaaRows
import Derived.Test.YtkefjgfcbcpcbaaGoWe
import Derived.Test.YtkefjgfcbcpcbaaGoSecA
import Derived.Test.YtkefjgfcbcpcbaaGoClone
set_option linter.unusedVariables false
set_option linter.unusedSimpArgs false
namespace Go.Proofs.Ytkefjgfcbcpcbaa
open Go.Abs

theorem ok_law09_WeldMerges : FnOk Try.prog 3 (law09_WeldMerges.c 8 9 10 11 12) law09_WeldMerges.r law09_WeldMerges.n := ⟨Try.f3, (Try.f3.body).getD .skip, Try.func3, rfl, by kernel_rfl, by kernel_rfl, rfl⟩
theorem ok_law09_WeldKeeps : FnOk Try.prog 4 (law09_WeldKeeps.c 8 9 12 13 14 15 11) law09_WeldKeeps.r law09_WeldKeeps.n := ⟨Try.f4, (Try.f4.body).getD .skip, Try.func4, rfl, by kernel_rfl, by kernel_rfl, rfl⟩
theorem ok_law09_WeldFirst : FnOk Try.prog 5 (law09_WeldFirst.c 8 12 9 16 17) law09_WeldFirst.r law09_WeldFirst.n := ⟨Try.f5, (Try.f5.body).getD .skip, Try.func5, rfl, by kernel_rfl, by kernel_rfl, rfl⟩
theorem ok_law09_WeldCleans : FnOk Try.prog 6 (law09_WeldCleans.c 8 16 18 11 19 20 12) law09_WeldCleans.r law09_WeldCleans.n := ⟨Try.f6, (Try.f6.body).getD .skip, Try.func6, rfl, by kernel_rfl, by kernel_rfl, rfl⟩
theorem ok_law09_WeldOnce : FnOk Try.prog 7 (law09_WeldOnce.c 8 16 12 19 21 11) law09_WeldOnce.r law09_WeldOnce.n := ⟨Try.f7, (Try.f7.body).getD .skip, Try.func7, rfl, by kernel_rfl, by kernel_rfl, rfl⟩
theorem ok_law09_few : FnOk Try.prog 8 law09_few.c law09_few.r law09_few.n := ⟨Try.f8, (Try.f8.body).getD .skip, Try.func8, rfl, by kernel_rfl, by kernel_rfl, rfl⟩
theorem ok_weld_Weld : FnOk Try.prog 9 (weld_Weld.c 22 23) weld_Weld.r weld_Weld.n := ⟨Try.f9, (Try.f9.body).getD .skip, Try.func9, rfl, by kernel_rfl, by kernel_rfl, rfl⟩
theorem ok_ref09_Weld : FnOk Try.prog 10 (ref09_Weld.c 13 24 25 26) ref09_Weld.r ref09_Weld.n := ⟨Try.f10, (Try.f10.body).getD .skip, Try.func10, rfl, by kernel_rfl, by kernel_rfl, rfl⟩
theorem ok_law09_same : FnOk Try.prog 11 law09_same.c law09_same.r law09_same.n := ⟨Try.f11, (Try.f11.body).getD .skip, Try.func11, rfl, by kernel_rfl, by kernel_rfl, rfl⟩
theorem ok_law09_awake : FnOk Try.prog 12 (law09_awake.c 9) law09_awake.r law09_awake.n := ⟨Try.f12, (Try.f12.body).getD .skip, Try.func12, rfl, by kernel_rfl, by kernel_rfl, rfl⟩
theorem ok_ref07_Corners : FnOk Try.prog 14 (ref07_Corners.c 13) ref07_Corners.r ref07_Corners.n := ⟨Try.f14, (Try.f14.body).getD .skip, Try.func14, rfl, by kernel_rfl, by kernel_rfl, rfl⟩
theorem ok_ref04_Less : FnOk Try.prog 15 ref04_Less.c ref04_Less.r ref04_Less.n := ⟨Try.f15, (Try.f15.body).getD .skip, Try.func15, rfl, by kernel_rfl, by kernel_rfl, rfl⟩
theorem ok_weld_Clean : FnOk Try.prog 16 (weld_Clean.c 22 28 29 30) weld_Clean.r weld_Clean.n := ⟨Try.f16, (Try.f16.body).getD .skip, Try.func16, rfl, by kernel_rfl, by kernel_rfl, rfl⟩
theorem ok_law09_corners : FnOk Try.prog 17 (law09_corners.c 14) law09_corners.r law09_corners.n := ⟨Try.f17, (Try.f17.body).getD .skip, Try.func17, rfl, by kernel_rfl, by kernel_rfl, rfl⟩
theorem ok_ref09_Clean : FnOk Try.prog 18 (ref09_Clean.c 13 20 21) ref09_Clean.r ref09_Clean.n := ⟨Try.f18, (Try.f18.body).getD .skip, Try.func18, rfl, by kernel_rfl, by kernel_rfl, rfl⟩
theorem ok_weld_Degenerate : FnOk Try.prog 19 (weld_Degenerate.c 31 30) weld_Degenerate.r weld_Degenerate.n := ⟨Try.f19, (Try.f19.body).getD .skip, Try.func19, rfl, by kernel_rfl, by kernel_rfl, rfl⟩
theorem ok_ref09_Degenerate : FnOk Try.prog 20 (ref09_Degenerate.c 14 32) ref09_Degenerate.r ref09_Degenerate.n := ⟨Try.f20, (Try.f20.body).getD .skip, Try.func20, rfl, by kernel_rfl, by kernel_rfl, rfl⟩
theorem ok_ref09_Twins : FnOk Try.prog 21 ref09_Twins.c ref09_Twins.r ref09_Twins.n := ⟨Try.f21, (Try.f21.body).getD .skip, Try.func21, rfl, by kernel_rfl, by kernel_rfl, rfl⟩
theorem ok_weld_used : FnOk Try.prog 23 (weld_used.c 34 35) weld_used.r weld_used.n := ⟨Try.f23, (Try.f23.body).getD .skip, Try.func23, rfl, by kernel_rfl, by kernel_rfl, rfl⟩
theorem ok_ref09_find : FnOk Try.prog 24 ref09_find.c ref09_find.r ref09_find.n := ⟨Try.f24, (Try.f24.body).getD .skip, Try.func24, rfl, by kernel_rfl, by kernel_rfl, rfl⟩
theorem ok_ref09_used : FnOk Try.prog 25 ref09_used.c ref09_used.r ref09_used.n := ⟨Try.f25, (Try.f25.body).getD .skip, Try.func25, rfl, by kernel_rfl, by kernel_rfl, rfl⟩
theorem ok_ref09_insert : FnOk Try.prog 26 (ref09_insert.c 15) ref09_insert.r ref09_insert.n := ⟨Try.f26, (Try.f26.body).getD .skip, Try.func26, rfl, by kernel_rfl, by kernel_rfl, rfl⟩
theorem ok_weld_turned : FnOk Try.prog 29 (weld_turned.c 38) weld_turned.r weld_turned.n := ⟨Try.f29, (Try.f29.body).getD .skip, Try.func29, rfl, by kernel_rfl, by kernel_rfl, rfl⟩
theorem ok_vec_Collinear : FnOk Try.prog 30 (vec_Collinear.c 33 40 39) vec_Collinear.r vec_Collinear.n := ⟨Try.f30, (Try.f30.body).getD .skip, Try.func30, rfl, by kernel_rfl, by kernel_rfl, rfl⟩
theorem ok_ref04_Collinear : FnOk Try.prog 32 (ref04_Collinear.c 27 42 41) ref04_Collinear.r ref04_Collinear.n := ⟨Try.f32, (Try.f32.body).getD .skip, Try.func32, rfl, by kernel_rfl, by kernel_rfl, rfl⟩
theorem ok_weld_used_1 : FnOk Try.prog 35 (weld_used_1.c 36) weld_used_1.r weld_used_1.n := ⟨Try.f35, (Try.f35.body).getD .skip, Try.func35, rfl, by kernel_rfl, by kernel_rfl, rfl⟩
theorem ok_vec_Less : FnOk Try.prog 36 vec_Less.c vec_Less.r vec_Less.n := ⟨Try.f36, (Try.f36.body).getD .skip, Try.func36, rfl, by kernel_rfl, by kernel_rfl, rfl⟩
theorem ok_weld_before : FnOk Try.prog 38 weld_before.c weld_before.r weld_before.n := ⟨Try.f38, (Try.f38.body).getD .skip, Try.func38, rfl, by kernel_rfl, by kernel_rfl, rfl⟩
theorem ok_vec_Sub : FnOk Try.prog 40 (vec_Sub.c 33) vec_Sub.r vec_Sub.n := ⟨Try.f40, (Try.f40.body).getD .skip, Try.func40, rfl, by kernel_rfl, by kernel_rfl, rfl⟩
theorem ok_ref04_Cross : FnOk Try.prog 41 (ref04_Cross.c 47) ref04_Cross.r ref04_Cross.n := ⟨Try.f41, (Try.f41.body).getD .skip, Try.func41, rfl, by kernel_rfl, by kernel_rfl, rfl⟩
theorem ok_ref04_Sub : FnOk Try.prog 42 (ref04_Sub.c 27) ref04_Sub.r ref04_Sub.n := ⟨Try.f42, (Try.f42.body).getD .skip, Try.func42, rfl, by kernel_rfl, by kernel_rfl, rfl⟩
theorem ok_ref04_small : FnOk Try.prog 47 (ref04_small.c 37) ref04_small.r ref04_small.n := ⟨Try.f47, (Try.f47.body).getD .skip, Try.func47, rfl, by kernel_rfl, by kernel_rfl, rfl⟩
theorem ok_mesh_Check : FnOk Try.prog 22 (mesh_Check.c 33) mesh_Check.r mesh_Check.n := ⟨Try.f22, (Try.f22.body).getD .skip, Try.func22, rfl, by kernel_rfl, by kernel_rfl, rfl⟩
theorem ok_ref07_Check : FnOk Try.prog 13 (ref07_Check.c 27) ref07_Check.r ref07_Check.n := ⟨Try.f13, (Try.f13.body).getD .skip, Try.func13, rfl, by kernel_rfl, by kernel_rfl, rfl⟩
theorem ok_vec_Valid : FnOk Try.prog 33 (vec_Valid.c 43) vec_Valid.r vec_Valid.n := ⟨Try.f33, (Try.f33.body).getD .skip, Try.func33, rfl, by kernel_rfl, by kernel_rfl, rfl⟩
theorem ok_vec_within : FnOk Try.prog 43 vec_within.c vec_within.r vec_within.n := ⟨Try.f43, (Try.f43.body).getD .skip, Try.func43, rfl, by kernel_rfl, by kernel_rfl, rfl⟩
theorem ok_ref04_Valid : FnOk Try.prog 27 (ref04_Valid.c 37) ref04_Valid.r ref04_Valid.n := ⟨Try.f27, (Try.f27.body).getD .skip, Try.func27, rfl, by kernel_rfl, by kernel_rfl, rfl⟩
theorem ok_ref04_within : FnOk Try.prog 37 ref04_within.c ref04_within.r ref04_within.n := ⟨Try.f37, (Try.f37.body).getD .skip, Try.func37, rfl, by kernel_rfl, by kernel_rfl, rfl⟩
theorem ok_mesh_Corners : FnOk Try.prog 31 (mesh_Corners.c 22) mesh_Corners.r mesh_Corners.n := ⟨Try.f31, (Try.f31.body).getD .skip, Try.func31, rfl, by kernel_rfl, by kernel_rfl, rfl⟩
theorem ok_vec_Cross : FnOk Try.prog 39 (vec_Cross.c 46) vec_Cross.r vec_Cross.n := ⟨Try.f39, (Try.f39.body).getD .skip, Try.func39, rfl, by kernel_rfl, by kernel_rfl, rfl⟩
theorem ok_vec_small : FnOk Try.prog 46 (vec_small.c 43) vec_small.r vec_small.n := ⟨Try.f46, (Try.f46.body).getD .skip, Try.func46, rfl, by kernel_rfl, by kernel_rfl, rfl⟩
theorem ok_slices_Clone_api_Vec_api_Vec : FnOk Try.prog 28 slices_Clone_api_Vec_api_Vec.c slices_Clone_api_Vec_api_Vec.r slices_Clone_api_Vec_api_Vec.n := ⟨Try.f28, (Try.f28.body).getD .skip, Try.func28, rfl, by kernel_rfl, by kernel_rfl, rfl⟩

end Go.Proofs.Ytkefjgfcbcpcbaa
