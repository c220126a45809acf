/- The program's functions are those whose code the library's texts hold. -/
import Derived.Test.YtmgfinibgfjmpaaRows
import Derived.Test.YtmgfinibgfjmpaaGoQl
import Derived.Test.YtmgfinibgfjmpaaGoClone
import Derived.Test.YtmgfinibgfjmpaaGoQc
set_option linter.unusedVariables false
set_option linter.unusedSimpArgs false
namespace Go.Proofs.Ytmgfinibgfjmpaa
open Go.Abs

theorem ok_ref11_Reversed : FnOk Try.prog 20 ref11_Reversed.c ref11_Reversed.r ref11_Reversed.n := ⟨Try.f20, (Try.f20.body).getD .skip, Try.func20, rfl, by kernel_rfl, by kernel_rfl, rfl⟩
theorem ok_topo_Shells : FnOk Try.prog 21 (topo_Shells.c 17 42 43 44) topo_Shells.r topo_Shells.n := ⟨Try.f21, (Try.f21.body).getD .skip, Try.func21, rfl, by kernel_rfl, by kernel_rfl, rfl⟩
theorem ok_topo_edges : FnOk Try.prog 42 topo_edges.c topo_edges.r topo_edges.n := ⟨Try.f42, (Try.f42.body).getD .skip, Try.func42, rfl, by kernel_rfl, by kernel_rfl, rfl⟩
theorem ok_topo_undirected : FnOk Try.prog 43 topo_undirected.c topo_undirected.r topo_undirected.n := ⟨Try.f43, (Try.f43.body).getD .skip, Try.func43, rfl, by kernel_rfl, by kernel_rfl, rfl⟩
end Go.Proofs.Ytmgfinibgfjmpaa
