/- The program's functions are those whose code the library's texts hold. -/
import Derived.Test.YtmgfinibgfjmpaaRows
import Derived.Test.YtmgfinibgfjmpaaGoQj
set_option linter.unusedVariables false
set_option linter.unusedSimpArgs false
namespace Go.Proofs.Ytmgfinibgfjmpaa
open Go.Abs

theorem ok_law11_OrientImpossible : FnOk Try.prog 5 (law11_OrientImpossible.c 10 17 13 14 18) law11_OrientImpossible.r law11_OrientImpossible.n := ⟨Try.f5, (Try.f5.body).getD .skip, Try.func5, rfl, by kernel_rfl, by kernel_rfl, rfl⟩
theorem ok_topo_Uses : FnOk Try.prog 18 (topo_Uses.c 40 41) topo_Uses.r topo_Uses.n := ⟨Try.f18, (Try.f18.body).getD .skip, Try.func18, rfl, by kernel_rfl, by kernel_rfl, rfl⟩

end Go.Proofs.Ytmgfinibgfjmpaa
