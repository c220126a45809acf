/- The program's functions are those whose code the library's texts hold. -/
import Derived.Test.YtoppidobgkgiiaaRows
import Derived.Test.YtoppidobgkgiiaaGoSe
set_option linter.unusedVariables false
set_option linter.unusedSimpArgs false
namespace Go.Proofs.Ytoppidobgkgiiaa
open Go.Abs

theorem ok_law13_ShapesSound : FnOk Try.prog 8 (law13_ShapesSound.c 13 9 14 16 31 32 12) law13_ShapesSound.r law13_ShapesSound.n := ⟨Try.f8, (Try.f8.body).getD .skip, Try.func8, rfl, by kernel_rfl, by kernel_rfl, rfl⟩
theorem ok_law13_sound : FnOk Try.prog 31 (law13_sound.c 29 65 66 67 30) law13_sound.r law13_sound.n := ⟨Try.f31, (Try.f31.body).getD .skip, Try.func31, rfl, by kernel_rfl, by kernel_rfl, rfl⟩
theorem ok_planar_Area2 : FnOk Try.prog 32 (planar_Area2.c 68) planar_Area2.r planar_Area2.n := ⟨Try.f32, (Try.f32.body).getD .skip, Try.func32, rfl, by kernel_rfl, by kernel_rfl, rfl⟩
theorem ok_topo_counted : FnOk Try.prog 77 (topo_counted.c 27 85) topo_counted.r topo_counted.n := ⟨Try.f77, (Try.f77.body).getD .skip, Try.func77, rfl, by kernel_rfl, by kernel_rfl, rfl⟩
theorem ok_topo_reverse : FnOk Try.prog 78 topo_reverse.c topo_reverse.r topo_reverse.n := ⟨Try.f78, (Try.f78.body).getD .skip, Try.func78, rfl, by kernel_rfl, by kernel_rfl, rfl⟩
theorem ok_topo_edges : FnOk Try.prog 85 topo_edges.c topo_edges.r topo_edges.n := ⟨Try.f85, (Try.f85.body).getD .skip, Try.func85, rfl, by kernel_rfl, by kernel_rfl, rfl⟩
theorem ok_topo_undirected : FnOk Try.prog 86 topo_undirected.c topo_undirected.r topo_undirected.n := ⟨Try.f86, (Try.f86.body).getD .skip, Try.func86, rfl, by kernel_rfl, by kernel_rfl, rfl⟩
theorem ok_topo_Closed : FnOk Try.prog 29 (topo_Closed.c 27 63) topo_Closed.r topo_Closed.n := ⟨Try.f29, (Try.f29.body).getD .skip, Try.func29, rfl, by kernel_rfl, by kernel_rfl, rfl⟩
theorem ok_topo_Boundary : FnOk Try.prog 63 (topo_Boundary.c 77 78 79 80) topo_Boundary.r topo_Boundary.n := ⟨Try.f63, (Try.f63.body).getD .skip, Try.func63, rfl, by kernel_rfl, by kernel_rfl, rfl⟩
theorem ok_topo_Edges : FnOk Try.prog 88 (topo_Edges.c 77 78 86 79 80) topo_Edges.r topo_Edges.n := ⟨Try.f88, (Try.f88.body).getD .skip, Try.func88, rfl, by kernel_rfl, by kernel_rfl, rfl⟩
theorem ok_topo_Shells : FnOk Try.prog 66 (topo_Shells.c 27 85 86 87) topo_Shells.r topo_Shells.n := ⟨Try.f66, (Try.f66.body).getD .skip, Try.func66, rfl, by kernel_rfl, by kernel_rfl, rfl⟩
theorem ok_topo_Euler : FnOk Try.prog 67 (topo_Euler.c 27 88) topo_Euler.r topo_Euler.n := ⟨Try.f67, (Try.f67.body).getD .skip, Try.func67, rfl, by kernel_rfl, by kernel_rfl, rfl⟩
theorem ok_topo_order : FnOk Try.prog 80 (topo_order.c 94 93) topo_order.r topo_order.n := ⟨Try.f80, (Try.f80.body).getD .skip, Try.func80, rfl, by kernel_rfl, by kernel_rfl, rfl⟩
theorem ok_cmp_Or_int : FnOk Try.prog 93 cmp_Or_int.c cmp_Or_int.r cmp_Or_int.n := ⟨Try.f93, (Try.f93.body).getD .skip, Try.func93, rfl, by kernel_rfl, by kernel_rfl, rfl⟩
theorem ok_cmp_Compare_int : FnOk Try.prog 94 (cmp_Compare_int.c 109) cmp_Compare_int.r cmp_Compare_int.n := ⟨Try.f94, (Try.f94.body).getD .skip, Try.func94, rfl, by kernel_rfl, by kernel_rfl, rfl⟩
theorem ok_cmp_isNaN_int : FnOk Try.prog 109 cmp_isNaN_int.c cmp_isNaN_int.r cmp_isNaN_int.n := ⟨Try.f109, (Try.f109.body).getD .skip, Try.func109, rfl, by kernel_rfl, by kernel_rfl, rfl⟩
theorem ok_orient_Coherent : FnOk Try.prog 65 (orient_Coherent.c 27 84) orient_Coherent.r orient_Coherent.n := ⟨Try.f65, (Try.f65.body).getD .skip, Try.func65, rfl, by kernel_rfl, by kernel_rfl, rfl⟩
theorem ok_orient_coherent : FnOk Try.prog 84 (orient_coherent.c 95) orient_coherent.r orient_coherent.n := ⟨Try.f84, (Try.f84.body).getD .skip, Try.func84, rfl, by kernel_rfl, by kernel_rfl, rfl⟩
theorem ok_orient_edges : FnOk Try.prog 95 orient_edges.c orient_edges.r orient_edges.n := ⟨Try.f95, (Try.f95.body).getD .skip, Try.func95, rfl, by kernel_rfl, by kernel_rfl, rfl⟩

end Go.Proofs.Ytoppidobgkgiiaa
