/- The program's functions are those whose code the library's texts hold. -/
import Derived.Test.YtmgfinibgfjmpaaRows
import Derived.Test.YtmgfinibgfjmpaaGoVs
import Derived.Test.YtmgfinibgfjmpaaGoVs
set_option linter.unusedVariables false
set_option linter.unusedSimpArgs false
namespace Go.Proofs.Ytmgfinibgfjmpaa
open Go.Abs

theorem ok_law11_OrientOutward : FnOk Try.prog 8 (law11_OrientOutward.c 10 13 23 24 16) law11_OrientOutward.r law11_OrientOutward.n := ⟨Try.f8, (Try.f8.body).getD .skip, Try.func8, rfl, by kernel_rfl, by kernel_rfl, rfl⟩
theorem ok_law11_OrientVolumes : FnOk Try.prog 9 (law11_OrientVolumes.c 10 13 23 21 25 11 16) law11_OrientVolumes.r law11_OrientVolumes.n := ⟨Try.f9, (Try.f9.body).getD .skip, Try.func9, rfl, by kernel_rfl, by kernel_rfl, rfl⟩
theorem ok_orient_Outward : FnOk Try.prog 23 (orient_Outward.c 17 45 26 36 30 21 25 35) orient_Outward.r orient_Outward.n := ⟨Try.f23, (Try.f23.body).getD .skip, Try.func23, rfl, by kernel_rfl, by kernel_rfl, rfl⟩
theorem ok_ref11_Outward : FnOk Try.prog 24 (ref11_Outward.c 27 46 28 37 48 47 20) ref11_Outward.r ref11_Outward.n := ⟨Try.f24, (Try.f24.body).getD .skip, Try.func24, rfl, by kernel_rfl, by kernel_rfl, rfl⟩
theorem ok_ref11_part : FnOk Try.prog 48 ref11_part.c ref11_part.r ref11_part.n := ⟨Try.f48, (Try.f48.body).getD .skip, Try.func48, rfl, by kernel_rfl, by kernel_rfl, rfl⟩
theorem ok_ref11_Reversed : FnOk Try.prog 20 ref11_Reversed.c ref11_Reversed.r ref11_Reversed.n := ⟨Try.f20, (Try.f20.body).getD .skip, Try.func20, rfl, by kernel_rfl, by kernel_rfl, rfl⟩
theorem ok_mesh_Volume6 : FnOk Try.prog 25 (mesh_Volume6.c 17 49) mesh_Volume6.r mesh_Volume6.n := ⟨Try.f25, (Try.f25.body).getD .skip, Try.func25, rfl, by kernel_rfl, by kernel_rfl, rfl⟩
theorem ok_vec_Det : FnOk Try.prog 49 (vec_Det.c 61 63 62) vec_Det.r vec_Det.n := ⟨Try.f49, (Try.f49.body).getD .skip, Try.func49, rfl, by kernel_rfl, by kernel_rfl, rfl⟩
theorem ok_vec_small : FnOk Try.prog 61 (vec_small.c 55) vec_small.r vec_small.n := ⟨Try.f61, (Try.f61.body).getD .skip, Try.func61, rfl, by kernel_rfl, by kernel_rfl, rfl⟩
theorem ok_vec_Dot : FnOk Try.prog 62 (vec_Dot.c 61 55) vec_Dot.r vec_Dot.n := ⟨Try.f62, (Try.f62.body).getD .skip, Try.func62, rfl, by kernel_rfl, by kernel_rfl, rfl⟩
theorem ok_vec_Cross : FnOk Try.prog 63 (vec_Cross.c 61) vec_Cross.r vec_Cross.n := ⟨Try.f63, (Try.f63.body).getD .skip, Try.func63, rfl, by kernel_rfl, by kernel_rfl, rfl⟩
theorem ok_ref07_Volume6 : FnOk Try.prog 47 (ref07_Volume6.c 27 60) ref07_Volume6.r ref07_Volume6.n := ⟨Try.f47, (Try.f47.body).getD .skip, Try.func47, rfl, by kernel_rfl, by kernel_rfl, rfl⟩
theorem ok_ref04_Det : FnOk Try.prog 60 (ref04_Det.c 85 87 86) ref04_Det.r ref04_Det.n := ⟨Try.f60, (Try.f60.body).getD .skip, Try.func60, rfl, by kernel_rfl, by kernel_rfl, rfl⟩
theorem ok_ref04_small : FnOk Try.prog 85 (ref04_small.c 64) ref04_small.r ref04_small.n := ⟨Try.f85, (Try.f85.body).getD .skip, Try.func85, rfl, by kernel_rfl, by kernel_rfl, rfl⟩
theorem ok_ref04_Dot : FnOk Try.prog 86 (ref04_Dot.c 85 64) ref04_Dot.r ref04_Dot.n := ⟨Try.f86, (Try.f86.body).getD .skip, Try.func86, rfl, by kernel_rfl, by kernel_rfl, rfl⟩
theorem ok_ref04_Cross : FnOk Try.prog 87 (ref04_Cross.c 85) ref04_Cross.r ref04_Cross.n := ⟨Try.f87, (Try.f87.body).getD .skip, Try.func87, rfl, by kernel_rfl, by kernel_rfl, rfl⟩
theorem ok_ref07_Same : FnOk Try.prog 16 ref07_Same.c ref07_Same.r ref07_Same.n := ⟨Try.f16, (Try.f16.body).getD .skip, Try.func16, rfl, by kernel_rfl, by kernel_rfl, rfl⟩
theorem ok_topo_Shells : FnOk Try.prog 21 (topo_Shells.c 17 42 43 44) topo_Shells.r topo_Shells.n := ⟨Try.f21, (Try.f21.body).getD .skip, Try.func21, rfl, by kernel_rfl, by kernel_rfl, rfl⟩
theorem ok_topo_counted : FnOk Try.prog 40 (topo_counted.c 17 42) topo_counted.r topo_counted.n := ⟨Try.f40, (Try.f40.body).getD .skip, Try.func40, rfl, by kernel_rfl, by kernel_rfl, rfl⟩
theorem ok_topo_reverse : FnOk Try.prog 41 topo_reverse.c topo_reverse.r topo_reverse.n := ⟨Try.f41, (Try.f41.body).getD .skip, Try.func41, rfl, by kernel_rfl, by kernel_rfl, rfl⟩
theorem ok_topo_edges : FnOk Try.prog 42 topo_edges.c topo_edges.r topo_edges.n := ⟨Try.f42, (Try.f42.body).getD .skip, Try.func42, rfl, by kernel_rfl, by kernel_rfl, rfl⟩
theorem ok_topo_undirected : FnOk Try.prog 43 topo_undirected.c topo_undirected.r topo_undirected.n := ⟨Try.f43, (Try.f43.body).getD .skip, Try.func43, rfl, by kernel_rfl, by kernel_rfl, rfl⟩
theorem ok_topo_Closed : FnOk Try.prog 45 (topo_Closed.c 17 58) topo_Closed.r topo_Closed.n := ⟨Try.f45, (Try.f45.body).getD .skip, Try.func45, rfl, by kernel_rfl, by kernel_rfl, rfl⟩
theorem ok_topo_Boundary : FnOk Try.prog 58 (topo_Boundary.c 40 41 81 82) topo_Boundary.r topo_Boundary.n := ⟨Try.f58, (Try.f58.body).getD .skip, Try.func58, rfl, by kernel_rfl, by kernel_rfl, rfl⟩
theorem ok_topo_order : FnOk Try.prog 82 (topo_order.c 98 97) topo_order.r topo_order.n := ⟨Try.f82, (Try.f82.body).getD .skip, Try.func82, rfl, by kernel_rfl, by kernel_rfl, rfl⟩
theorem ok_cmp_Or_int : FnOk Try.prog 97 cmp_Or_int.c cmp_Or_int.r cmp_Or_int.n := ⟨Try.f97, (Try.f97.body).getD .skip, Try.func97, rfl, by kernel_rfl, by kernel_rfl, rfl⟩
theorem ok_cmp_Compare_int : FnOk Try.prog 98 (cmp_Compare_int.c 95) cmp_Compare_int.r cmp_Compare_int.n := ⟨Try.f98, (Try.f98.body).getD .skip, Try.func98, rfl, by kernel_rfl, by kernel_rfl, rfl⟩
theorem ok_cmp_isNaN_int : FnOk Try.prog 95 cmp_isNaN_int.c cmp_isNaN_int.r cmp_isNaN_int.n := ⟨Try.f95, (Try.f95.body).getD .skip, Try.func95, rfl, by kernel_rfl, by kernel_rfl, rfl⟩
theorem ok_ref10_Shells : FnOk Try.prog 37 (ref10_Shells.c 27 53) ref10_Shells.r ref10_Shells.n := ⟨Try.f37, (Try.f37.body).getD .skip, Try.func37, rfl, by kernel_rfl, by kernel_rfl, rfl⟩
theorem ok_ref10_spread : FnOk Try.prog 53 (ref10_spread.c 65 66 68 67 69) ref10_spread.r ref10_spread.n := ⟨Try.f53, (Try.f53.body).getD .skip, Try.func53, rfl, by kernel_rfl, by kernel_rfl, rfl⟩
theorem ok_ref10_undirected : FnOk Try.prog 65 (ref10_undirected.c 66 68 88) ref10_undirected.r ref10_undirected.n := ⟨Try.f65, (Try.f65.body).getD .skip, Try.func65, rfl, by kernel_rfl, by kernel_rfl, rfl⟩
theorem ok_ref10_Directed : FnOk Try.prog 66 ref10_Directed.c ref10_Directed.r ref10_Directed.n := ⟨Try.f66, (Try.f66.body).getD .skip, Try.func66, rfl, by kernel_rfl, by kernel_rfl, rfl⟩
theorem ok_ref10_Undirected : FnOk Try.prog 68 ref10_Undirected.c ref10_Undirected.r ref10_Undirected.n := ⟨Try.f68, (Try.f68.body).getD .skip, Try.func68, rfl, by kernel_rfl, by kernel_rfl, rfl⟩
theorem ok_ref10_number : FnOk Try.prog 69 (ref10_number.c 67) ref10_number.r ref10_number.n := ⟨Try.f69, (Try.f69.body).getD .skip, Try.func69, rfl, by kernel_rfl, by kernel_rfl, rfl⟩
theorem ok_ref10_place : FnOk Try.prog 67 (ref10_place.c 89) ref10_place.r ref10_place.n := ⟨Try.f67, (Try.f67.body).getD .skip, Try.func67, rfl, by kernel_rfl, by kernel_rfl, rfl⟩
theorem ok_ref10_before : FnOk Try.prog 89 ref10_before.c ref10_before.r ref10_before.n := ⟨Try.f89, (Try.f89.body).getD .skip, Try.func89, rfl, by kernel_rfl, by kernel_rfl, rfl⟩
theorem ok_ref10_with : FnOk Try.prog 88 (ref10_with.c 67) ref10_with.r ref10_with.n := ⟨Try.f88, (Try.f88.body).getD .skip, Try.func88, rfl, by kernel_rfl, by kernel_rfl, rfl⟩
theorem ok_ref10_Closed : FnOk Try.prog 46 (ref10_Closed.c 27 59) ref10_Closed.r ref10_Closed.n := ⟨Try.f46, (Try.f46.body).getD .skip, Try.func46, rfl, by kernel_rfl, by kernel_rfl, rfl⟩
theorem ok_ref10_Boundary : FnOk Try.prog 59 (ref10_Boundary.c 27 83 84 69) ref10_Boundary.r ref10_Boundary.n := ⟨Try.f59, (Try.f59.body).getD .skip, Try.func59, rfl, by kernel_rfl, by kernel_rfl, rfl⟩
theorem ok_ref10_counts : FnOk Try.prog 83 (ref10_counts.c 66 88 67) ref10_counts.r ref10_counts.n := ⟨Try.f83, (Try.f83.body).getD .skip, Try.func83, rfl, by kernel_rfl, by kernel_rfl, rfl⟩
theorem ok_ref10_reverse : FnOk Try.prog 84 ref10_reverse.c ref10_reverse.r ref10_reverse.n := ⟨Try.f84, (Try.f84.body).getD .skip, Try.func84, rfl, by kernel_rfl, by kernel_rfl, rfl⟩

end Go.Proofs.Ytmgfinibgfjmpaa
