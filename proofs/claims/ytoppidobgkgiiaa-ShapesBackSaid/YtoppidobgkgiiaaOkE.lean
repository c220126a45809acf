/- The program's functions are those whose code the library's texts hold. -/
import Derived.Test.YtoppidobgkgiiaaRows
import Derived.Test.YtoppidobgkgiiaaGoRc
set_option linter.unusedVariables false
set_option linter.unusedSimpArgs false
namespace Go.Proofs.Ytoppidobgkgiiaa
open Go.Abs

theorem ok_law13_ShapesBack : FnOk Try.prog 7 (law13_ShapesBack.c 18 27 12 19 28 29 30 21 25) law13_ShapesBack.r law13_ShapesBack.n := ⟨Try.f7, (Try.f7.body).getD .skip, Try.func7, rfl, by kernel_rfl, by kernel_rfl, rfl⟩
theorem ok_mesh_Same : FnOk Try.prog 28 mesh_Same.c mesh_Same.r mesh_Same.n := ⟨Try.f28, (Try.f28.body).getD .skip, Try.func28, rfl, by kernel_rfl, by kernel_rfl, rfl⟩
theorem ok_topo_counted : FnOk Try.prog 77 (topo_counted.c 27 85) topo_counted.r topo_counted.n := ⟨Try.f77, (Try.f77.body).getD .skip, Try.func77, rfl, by kernel_rfl, by kernel_rfl, rfl⟩
theorem ok_topo_reverse : FnOk Try.prog 78 topo_reverse.c topo_reverse.r topo_reverse.n := ⟨Try.f78, (Try.f78.body).getD .skip, Try.func78, rfl, by kernel_rfl, by kernel_rfl, rfl⟩
theorem ok_topo_edges : FnOk Try.prog 85 topo_edges.c topo_edges.r topo_edges.n := ⟨Try.f85, (Try.f85.body).getD .skip, Try.func85, rfl, by kernel_rfl, by kernel_rfl, rfl⟩
theorem ok_topo_Closed : FnOk Try.prog 29 (topo_Closed.c 27 63) topo_Closed.r topo_Closed.n := ⟨Try.f29, (Try.f29.body).getD .skip, Try.func29, rfl, by kernel_rfl, by kernel_rfl, rfl⟩
theorem ok_topo_Boundary : FnOk Try.prog 63 (topo_Boundary.c 77 78 79 80) topo_Boundary.r topo_Boundary.n := ⟨Try.f63, (Try.f63.body).getD .skip, Try.func63, rfl, by kernel_rfl, by kernel_rfl, rfl⟩
theorem ok_topo_order : FnOk Try.prog 80 (topo_order.c 94 93) topo_order.r topo_order.n := ⟨Try.f80, (Try.f80.body).getD .skip, Try.func80, rfl, by kernel_rfl, by kernel_rfl, rfl⟩
theorem ok_cmp_Or_int : FnOk Try.prog 93 cmp_Or_int.c cmp_Or_int.r cmp_Or_int.n := ⟨Try.f93, (Try.f93.body).getD .skip, Try.func93, rfl, by kernel_rfl, by kernel_rfl, rfl⟩
theorem ok_cmp_Compare_int : FnOk Try.prog 94 (cmp_Compare_int.c 109) cmp_Compare_int.r cmp_Compare_int.n := ⟨Try.f94, (Try.f94.body).getD .skip, Try.func94, rfl, by kernel_rfl, by kernel_rfl, rfl⟩
theorem ok_cmp_isNaN_int : FnOk Try.prog 109 cmp_isNaN_int.c cmp_isNaN_int.r cmp_isNaN_int.n := ⟨Try.f109, (Try.f109.body).getD .skip, Try.func109, rfl, by kernel_rfl, by kernel_rfl, rfl⟩

end Go.Proofs.Ytoppidobgkgiiaa
