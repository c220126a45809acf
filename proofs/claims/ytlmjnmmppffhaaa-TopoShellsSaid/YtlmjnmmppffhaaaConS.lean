/- What the program's functions on shells do to values. -/
import Derived.Test.YtlmjnmmppffhaaaRows
import Derived.Test.YtlmjnmmppffhaaaGoSu
import Derived.Test.YtlmjnmmppffhaaaLayJ
import Derived.Test.YtlmjnmmppffhaaaConB
set_option linter.unusedVariables false
set_option linter.unusedSimpArgs false
namespace Go.Proofs.Ytlmjnmmppffhaaa
open Go.Abs

theorem ok_law10_TopoShells : FnOk Try.prog 6 (law10_TopoShells.c 9 10 23 24 22 25 26) law10_TopoShells.r law10_TopoShells.n := ⟨Try.f6, (Try.f6.body).getD .skip, Try.func6, rfl, by kernel_rfl, by kernel_rfl, rfl⟩
theorem ok_law10_touch : FnOk Try.prog 26 (law10_touch.c 49 50) law10_touch.r law10_touch.n := ⟨Try.f26, (Try.f26.body).getD .skip, Try.func26, rfl, by kernel_rfl, by kernel_rfl, rfl⟩
theorem ok_ref10_Shells : FnOk Try.prog 24 (ref10_Shells.c 35 47) ref10_Shells.r ref10_Shells.n := ⟨Try.f24, (Try.f24.body).getD .skip, Try.func24, rfl, by kernel_rfl, by kernel_rfl, rfl⟩
theorem ok_ref10_spread : FnOk Try.prog 47 (ref10_spread.c 42 49 50 53 37) ref10_spread.r ref10_spread.n := ⟨Try.f47, (Try.f47.body).getD .skip, Try.func47, rfl, by kernel_rfl, by kernel_rfl, rfl⟩


theorem k_SortI : SortIC Try.prog 46 := sortI_ok sortIntL
theorem k_Shells : ShellsC Try.prog 23 := topo_Shells_ok mix ok_topo_Shells k_Check k_edges k_und k_SortI
theorem k_spread : SpreadFC Try.prog 47 := ref10_spread_ok mix ok_ref10_spread k_undir k_Directed k_rund k_place k_number
theorem k_rShells : ShellsC Try.prog 24 := ref10_Shells_ok mix ok_ref10_Shells k_rCheck k_spread
theorem k_touch : TouchC Try.prog 26 := law10_touch_ok mix ok_law10_touch k_Directed k_rund
end Go.Proofs.Ytlmjnmmppffhaaa
