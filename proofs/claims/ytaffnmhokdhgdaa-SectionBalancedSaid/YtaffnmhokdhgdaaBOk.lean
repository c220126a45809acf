/- The program's functions are those whose code the library's texts hold. -/
import Derived.Test.YtaffnmhokdhgdaaRows
import Derived.Test.YtaffnmhokdhgdaaGoBalC
set_option linter.unusedVariables false
set_option linter.unusedSimpArgs false
namespace Go.Proofs.Ytaffnmhokdhgdaa
open Go.Abs

theorem ok_topo_Closed : FnOk Try.prog 18 (topo_Closed.c 16 27) topo_Closed.r topo_Closed.n := ⟨Try.f18, (Try.f18.body).getD .skip, Try.func18, rfl, by kernel_rfl, by kernel_rfl, rfl⟩
theorem ok_topo_Boundary : FnOk Try.prog 27 (topo_Boundary.c 31 32 33 34) topo_Boundary.r topo_Boundary.n := ⟨Try.f27, (Try.f27.body).getD .skip, Try.func27, rfl, by kernel_rfl, by kernel_rfl, rfl⟩
theorem ok_topo_counted : FnOk Try.prog 31 (topo_counted.c 16 36) topo_counted.r topo_counted.n := ⟨Try.f31, (Try.f31.body).getD .skip, Try.func31, rfl, by kernel_rfl, by kernel_rfl, rfl⟩
theorem ok_topo_reverse : FnOk Try.prog 32 topo_reverse.c topo_reverse.r topo_reverse.n := ⟨Try.f32, (Try.f32.body).getD .skip, Try.func32, rfl, by kernel_rfl, by kernel_rfl, rfl⟩
theorem ok_topo_order : FnOk Try.prog 34 (topo_order.c 40 39) topo_order.r topo_order.n := ⟨Try.f34, (Try.f34.body).getD .skip, Try.func34, rfl, by kernel_rfl, by kernel_rfl, rfl⟩
theorem ok_topo_edges : FnOk Try.prog 36 topo_edges.c topo_edges.r topo_edges.n := ⟨Try.f36, (Try.f36.body).getD .skip, Try.func36, rfl, by kernel_rfl, by kernel_rfl, rfl⟩
theorem ok_cmp_Or_int : FnOk Try.prog 39 cmp_Or_int.c cmp_Or_int.r cmp_Or_int.n := ⟨Try.f39, (Try.f39.body).getD .skip, Try.func39, rfl, by kernel_rfl, by kernel_rfl, rfl⟩
theorem ok_cmp_Compare_int : FnOk Try.prog 40 (cmp_Compare_int.c 51) cmp_Compare_int.r cmp_Compare_int.n := ⟨Try.f40, (Try.f40.body).getD .skip, Try.func40, rfl, by kernel_rfl, by kernel_rfl, rfl⟩
theorem ok_cmp_isNaN_int : FnOk Try.prog 51 cmp_isNaN_int.c cmp_isNaN_int.r cmp_isNaN_int.n := ⟨Try.f51, (Try.f51.body).getD .skip, Try.func51, rfl, by kernel_rfl, by kernel_rfl, rfl⟩
theorem ok_law15_balanced : FnOk Try.prog 19 law15_balanced.c law15_balanced.r law15_balanced.n := ⟨Try.f19, (Try.f19.body).getD .skip, Try.func19, rfl, by kernel_rfl, by kernel_rfl, rfl⟩
theorem ok_law15_SectionBalanced : FnOk Try.prog 8 (law15_SectionBalanced.c 12 11 13 18 19) law15_SectionBalanced.r law15_SectionBalanced.n := ⟨Try.f8, (Try.f8.body).getD .skip, Try.func8, rfl, by kernel_rfl, by kernel_rfl, rfl⟩

end Go.Proofs.Ytaffnmhokdhgdaa
