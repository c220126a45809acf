/- The program's functions are those whose code the library's texts hold. -/
import Derived.Test.YtahpclonmobkiaaRows
import Derived.Test.YtahpclonmobkiaaGoHoA
import Derived.Test.YtahpclonmobkiaaGoClone
set_option linter.unusedVariables false
set_option linter.unusedSimpArgs false
namespace Go.Proofs.Ytahpclonmobkiaa
open Go.Abs

theorem ok_law12_HolesFans : FnOk Try.prog 3 (law12_HolesFans.c 8 9 10) law12_HolesFans.r law12_HolesFans.n := ⟨Try.f3, (Try.f3.body).getD .skip, Try.func3, rfl, by kernel_rfl, by kernel_rfl, rfl⟩
theorem ok_holes_Fan : FnOk Try.prog 8 holes_Fan.c holes_Fan.r holes_Fan.n := ⟨Try.f8, (Try.f8.body).getD .skip, Try.func8, rfl, by kernel_rfl, by kernel_rfl, rfl⟩
theorem ok_ref12_Fan : FnOk Try.prog 9 ref12_Fan.c ref12_Fan.r ref12_Fan.n := ⟨Try.f9, (Try.f9.body).getD .skip, Try.func9, rfl, by kernel_rfl, by kernel_rfl, rfl⟩
theorem ok_law12_awake : FnOk Try.prog 10 (law12_awake.c 23 12 8) law12_awake.r law12_awake.n := ⟨Try.f10, (Try.f10.body).getD .skip, Try.func10, rfl, by kernel_rfl, by kernel_rfl, rfl⟩
theorem ok_law12_tetra : FnOk Try.prog 23 law12_tetra.c law12_tetra.r law12_tetra.n := ⟨Try.f23, (Try.f23.body).getD .skip, Try.func23, rfl, by kernel_rfl, by kernel_rfl, rfl⟩
theorem ok_holes_Fill : FnOk Try.prog 12 (holes_Fill.c 24 15 25 26 8 27) holes_Fill.r holes_Fill.n := ⟨Try.f12, (Try.f12.body).getD .skip, Try.func12, rfl, by kernel_rfl, by kernel_rfl, rfl⟩
theorem ok_holes_extend : FnOk Try.prog 27 holes_extend.c holes_extend.r holes_extend.n := ⟨Try.f27, (Try.f27.body).getD .skip, Try.func27, rfl, by kernel_rfl, by kernel_rfl, rfl⟩
theorem ok_topo_Loops : FnOk Try.prog 15 (topo_Loops.c 24 29 30 31) topo_Loops.r topo_Loops.n := ⟨Try.f15, (Try.f15.body).getD .skip, Try.func15, rfl, by kernel_rfl, by kernel_rfl, rfl⟩
theorem ok_mesh_Check : FnOk Try.prog 24 (mesh_Check.c 38) mesh_Check.r mesh_Check.n := ⟨Try.f24, (Try.f24.body).getD .skip, Try.func24, rfl, by kernel_rfl, by kernel_rfl, rfl⟩
theorem ok_vec_Valid : FnOk Try.prog 38 (vec_Valid.c 50) vec_Valid.r vec_Valid.n := ⟨Try.f38, (Try.f38.body).getD .skip, Try.func38, rfl, by kernel_rfl, by kernel_rfl, rfl⟩
theorem ok_vec_within : FnOk Try.prog 50 vec_within.c vec_within.r vec_within.n := ⟨Try.f50, (Try.f50.body).getD .skip, Try.func50, rfl, by kernel_rfl, by kernel_rfl, rfl⟩
theorem ok_slices_Clone_api_Vec_api_Vec : FnOk Try.prog 25 slices_Clone_api_Vec_api_Vec.c slices_Clone_api_Vec_api_Vec.r slices_Clone_api_Vec_api_Vec.n := ⟨Try.f25, (Try.f25.body).getD .skip, Try.func25, rfl, by kernel_rfl, by kernel_rfl, rfl⟩
theorem ok_slices_Clone_api_Tri_api_Tri : FnOk Try.prog 26 slices_Clone_api_Tri_api_Tri.c slices_Clone_api_Tri_api_Tri.r slices_Clone_api_Tri_api_Tri.n := ⟨Try.f26, (Try.f26.body).getD .skip, Try.func26, rfl, by kernel_rfl, by kernel_rfl, rfl⟩
theorem ok_topo_counted : FnOk Try.prog 29 (topo_counted.c 24 41) topo_counted.r topo_counted.n := ⟨Try.f29, (Try.f29.body).getD .skip, Try.func29, rfl, by kernel_rfl, by kernel_rfl, rfl⟩
theorem ok_topo_edges : FnOk Try.prog 41 topo_edges.c topo_edges.r topo_edges.n := ⟨Try.f41, (Try.f41.body).getD .skip, Try.func41, rfl, by kernel_rfl, by kernel_rfl, rfl⟩
theorem ok_topo_reverse : FnOk Try.prog 31 topo_reverse.c topo_reverse.r topo_reverse.n := ⟨Try.f31, (Try.f31.body).getD .skip, Try.func31, rfl, by kernel_rfl, by kernel_rfl, rfl⟩
theorem ok_topo_Boundary : FnOk Try.prog 30 (topo_Boundary.c 29 31 42 43) topo_Boundary.r topo_Boundary.n := ⟨Try.f30, (Try.f30.body).getD .skip, Try.func30, rfl, by kernel_rfl, by kernel_rfl, rfl⟩
theorem ok_topo_order : FnOk Try.prog 43 (topo_order.c 54 53) topo_order.r topo_order.n := ⟨Try.f43, (Try.f43.body).getD .skip, Try.func43, rfl, by kernel_rfl, by kernel_rfl, rfl⟩
theorem ok_cmp_Or_int : FnOk Try.prog 53 cmp_Or_int.c cmp_Or_int.r cmp_Or_int.n := ⟨Try.f53, (Try.f53.body).getD .skip, Try.func53, rfl, by kernel_rfl, by kernel_rfl, rfl⟩
theorem ok_cmp_Compare_int : FnOk Try.prog 54 (cmp_Compare_int.c 66) cmp_Compare_int.r cmp_Compare_int.n := ⟨Try.f54, (Try.f54.body).getD .skip, Try.func54, rfl, by kernel_rfl, by kernel_rfl, rfl⟩
theorem ok_cmp_isNaN_int : FnOk Try.prog 66 cmp_isNaN_int.c cmp_isNaN_int.r cmp_isNaN_int.n := ⟨Try.f66, (Try.f66.body).getD .skip, Try.func66, rfl, by kernel_rfl, by kernel_rfl, rfl⟩

end Go.Proofs.Ytahpclonmobkiaa
