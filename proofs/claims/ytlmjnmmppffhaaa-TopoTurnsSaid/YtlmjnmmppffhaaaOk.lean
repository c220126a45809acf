/- The program's functions are those whose code the library's texts hold. -/
import Derived.Test.YtlmjnmmppffhaaaRows
import Derived.Test.YtlmjnmmppffhaaaGoTq
import Derived.Test.YtlmjnmmppffhaaaGoKnB
set_option linter.unusedVariables false
set_option linter.unusedSimpArgs false
namespace Go.Proofs.Ytlmjnmmppffhaaa
open Go.Abs

theorem ok_law10_awake : FnOk Try.prog 10 (law10_awake.c 31 20 11 32 14 13 16 23 29 18) law10_awake.r law10_awake.n := ⟨Try.f10, (Try.f10.body).getD .skip, Try.func10, rfl, by kernel_rfl, by kernel_rfl, rfl⟩
theorem ok_law10_example : FnOk Try.prog 31 law10_example.c law10_example.r law10_example.n := ⟨Try.f31, (Try.f31.body).getD .skip, Try.func31, rfl, by kernel_rfl, by kernel_rfl, rfl⟩
theorem ok_topo_Loops : FnOk Try.prog 20 (topo_Loops.c 25 33 16 34) topo_Loops.r topo_Loops.n := ⟨Try.f20, (Try.f20.body).getD .skip, Try.func20, rfl, by kernel_rfl, by kernel_rfl, rfl⟩
theorem ok_topo_Uses : FnOk Try.prog 11 (topo_Uses.c 33 34) topo_Uses.r topo_Uses.n := ⟨Try.f11, (Try.f11.body).getD .skip, Try.func11, rfl, by kernel_rfl, by kernel_rfl, rfl⟩
theorem ok_law10_same : FnOk Try.prog 32 law10_same.c law10_same.r law10_same.n := ⟨Try.f32, (Try.f32.body).getD .skip, Try.func32, rfl, by kernel_rfl, by kernel_rfl, rfl⟩
theorem ok_law10_edges : FnOk Try.prog 13 law10_edges.c law10_edges.r law10_edges.n := ⟨Try.f13, (Try.f13.body).getD .skip, Try.func13, rfl, by kernel_rfl, by kernel_rfl, rfl⟩
theorem ok_topo_Shells : FnOk Try.prog 23 (topo_Shells.c 25 45 39 46) topo_Shells.r topo_Shells.n := ⟨Try.f23, (Try.f23.body).getD .skip, Try.func23, rfl, by kernel_rfl, by kernel_rfl, rfl⟩
theorem ok_topo_Euler : FnOk Try.prog 29 (topo_Euler.c 25 14) topo_Euler.r topo_Euler.n := ⟨Try.f29, (Try.f29.body).getD .skip, Try.func29, rfl, by kernel_rfl, by kernel_rfl, rfl⟩
theorem ok_topo_Closed : FnOk Try.prog 18 (topo_Closed.c 25 16) topo_Closed.r topo_Closed.n := ⟨Try.f18, (Try.f18.body).getD .skip, Try.func18, rfl, by kernel_rfl, by kernel_rfl, rfl⟩
theorem ok_topo_Edges : FnOk Try.prog 14 (topo_Edges.c 33 34 39 40 41) topo_Edges.r topo_Edges.n := ⟨Try.f14, (Try.f14.body).getD .skip, Try.func14, rfl, by kernel_rfl, by kernel_rfl, rfl⟩
theorem ok_mesh_Check : FnOk Try.prog 25 (mesh_Check.c 48) mesh_Check.r mesh_Check.n := ⟨Try.f25, (Try.f25.body).getD .skip, Try.func25, rfl, by kernel_rfl, by kernel_rfl, rfl⟩
theorem ok_vec_Valid : FnOk Try.prog 48 (vec_Valid.c 59) vec_Valid.r vec_Valid.n := ⟨Try.f48, (Try.f48.body).getD .skip, Try.func48, rfl, by kernel_rfl, by kernel_rfl, rfl⟩
theorem ok_vec_within : FnOk Try.prog 59 vec_within.c vec_within.r vec_within.n := ⟨Try.f59, (Try.f59.body).getD .skip, Try.func59, rfl, by kernel_rfl, by kernel_rfl, rfl⟩
theorem ok_topo_counted : FnOk Try.prog 33 (topo_counted.c 25 45) topo_counted.r topo_counted.n := ⟨Try.f33, (Try.f33.body).getD .skip, Try.func33, rfl, by kernel_rfl, by kernel_rfl, rfl⟩
theorem ok_topo_edges : FnOk Try.prog 45 topo_edges.c topo_edges.r topo_edges.n := ⟨Try.f45, (Try.f45.body).getD .skip, Try.func45, rfl, by kernel_rfl, by kernel_rfl, rfl⟩
theorem ok_topo_reverse : FnOk Try.prog 34 topo_reverse.c topo_reverse.r topo_reverse.n := ⟨Try.f34, (Try.f34.body).getD .skip, Try.func34, rfl, by kernel_rfl, by kernel_rfl, rfl⟩
theorem ok_topo_undirected : FnOk Try.prog 39 topo_undirected.c topo_undirected.r topo_undirected.n := ⟨Try.f39, (Try.f39.body).getD .skip, Try.func39, rfl, by kernel_rfl, by kernel_rfl, rfl⟩
theorem ok_topo_Boundary : FnOk Try.prog 16 (topo_Boundary.c 33 34 40 41) topo_Boundary.r topo_Boundary.n := ⟨Try.f16, (Try.f16.body).getD .skip, Try.func16, rfl, by kernel_rfl, by kernel_rfl, rfl⟩
theorem ok_topo_order : FnOk Try.prog 41 (topo_order.c 57 56) topo_order.r topo_order.n := ⟨Try.f41, (Try.f41.body).getD .skip, Try.func41, rfl, by kernel_rfl, by kernel_rfl, rfl⟩
theorem ok_cmp_Or_int : FnOk Try.prog 56 cmp_Or_int.c cmp_Or_int.r cmp_Or_int.n := ⟨Try.f56, (Try.f56.body).getD .skip, Try.func56, rfl, by kernel_rfl, by kernel_rfl, rfl⟩
theorem ok_cmp_Compare_int : FnOk Try.prog 57 (cmp_Compare_int.c 72) cmp_Compare_int.r cmp_Compare_int.n := ⟨Try.f57, (Try.f57.body).getD .skip, Try.func57, rfl, by kernel_rfl, by kernel_rfl, rfl⟩
theorem ok_cmp_isNaN_int : FnOk Try.prog 72 cmp_isNaN_int.c cmp_isNaN_int.r cmp_isNaN_int.n := ⟨Try.f72, (Try.f72.body).getD .skip, Try.func72, rfl, by kernel_rfl, by kernel_rfl, rfl⟩
theorem ok_slices_Sort_int_int : FnOk Try.prog 46 (slices_Sort_int_int.c 55 58) slices_Sort_int_int.r slices_Sort_int_int.n := ⟨Try.f46, (Try.f46.body).getD .skip, Try.func46, rfl, by kernel_rfl, by kernel_rfl, rfl⟩
theorem ok_slices_pdqsortOrdered_int : FnOk Try.prog 58 (slices_pdqsortOrdered_int.c 73 74 75 76 77 78 79 80 81 58) slices_pdqsortOrdered_int.r slices_pdqsortOrdered_int.n := ⟨Try.f58, (Try.f58.body).getD .skip, Try.func58, rfl, by kernel_rfl, by kernel_rfl, rfl⟩
theorem ok_slices_insertionSortOrdered_int : FnOk Try.prog 73 (slices_insertionSortOrdered_int.c 79) slices_insertionSortOrdered_int.r slices_insertionSortOrdered_int.n := ⟨Try.f73, (Try.f73.body).getD .skip, Try.func73, rfl, by kernel_rfl, by kernel_rfl, rfl⟩
theorem ok_bits_Len : FnOk Try.prog 55 (bits_Len.c 70 71) bits_Len.r bits_Len.n := ⟨Try.f55, (Try.f55.body).getD .skip, Try.func55, rfl, by kernel_rfl, by kernel_rfl, rfl⟩
theorem ok_bits_Len64 : FnOk Try.prog 71 bits_Len64.c bits_Len64.r bits_Len64.n := ⟨Try.f71, (Try.f71.body).getD .skip, Try.func71, rfl, by kernel_rfl, by kernel_rfl, rfl⟩

end Go.Proofs.Ytlmjnmmppffhaaa
