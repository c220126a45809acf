/- The program's functions are those whose code the library's texts hold. -/
import Derived.Test.YtmgfinibgfjmpaaRows
import Derived.Test.YtmgfinibgfjmpaaGoQb
import Derived.Test.YtmgfinibgfjmpaaGoClone
import Derived.Test.YtmgfinibgfjmpaaGoQc
set_option linter.unusedVariables false
set_option linter.unusedSimpArgs false
namespace Go.Proofs.Ytmgfinibgfjmpaa
open Go.Abs

theorem ok_ref11_Reversed : FnOk Try.prog 20 ref11_Reversed.c ref11_Reversed.r ref11_Reversed.n := ⟨Try.f20, (Try.f20.body).getD .skip, Try.func20, rfl, by kernel_rfl, by kernel_rfl, rfl⟩
theorem ok_ref07_Same : FnOk Try.prog 16 ref07_Same.c ref07_Same.r ref07_Same.n := ⟨Try.f16, (Try.f16.body).getD .skip, Try.func16, rfl, by kernel_rfl, by kernel_rfl, rfl⟩
theorem ok_ref10_Shells : FnOk Try.prog 37 (ref10_Shells.c 27 53) ref10_Shells.r ref10_Shells.n := ⟨Try.f37, (Try.f37.body).getD .skip, Try.func37, rfl, by kernel_rfl, by kernel_rfl, rfl⟩
theorem ok_ref10_spread : FnOk Try.prog 53 (ref10_spread.c 65 66 68 67 69) ref10_spread.r ref10_spread.n := ⟨Try.f53, (Try.f53.body).getD .skip, Try.func53, rfl, by kernel_rfl, by kernel_rfl, rfl⟩
theorem ok_ref10_undirected : FnOk Try.prog 65 (ref10_undirected.c 66 68 88) ref10_undirected.r ref10_undirected.n := ⟨Try.f65, (Try.f65.body).getD .skip, Try.func65, rfl, by kernel_rfl, by kernel_rfl, rfl⟩
theorem ok_ref10_Directed : FnOk Try.prog 66 ref10_Directed.c ref10_Directed.r ref10_Directed.n := ⟨Try.f66, (Try.f66.body).getD .skip, Try.func66, rfl, by kernel_rfl, by kernel_rfl, rfl⟩
theorem ok_ref10_Undirected : FnOk Try.prog 68 ref10_Undirected.c ref10_Undirected.r ref10_Undirected.n := ⟨Try.f68, (Try.f68.body).getD .skip, Try.func68, rfl, by kernel_rfl, by kernel_rfl, rfl⟩
theorem ok_ref10_number : FnOk Try.prog 69 (ref10_number.c 67) ref10_number.r ref10_number.n := ⟨Try.f69, (Try.f69.body).getD .skip, Try.func69, rfl, by kernel_rfl, by kernel_rfl, rfl⟩
theorem ok_ref10_place : FnOk Try.prog 67 (ref10_place.c 89) ref10_place.r ref10_place.n := ⟨Try.f67, (Try.f67.body).getD .skip, Try.func67, rfl, by kernel_rfl, by kernel_rfl, rfl⟩
theorem ok_ref10_before : FnOk Try.prog 89 ref10_before.c ref10_before.r ref10_before.n := ⟨Try.f89, (Try.f89.body).getD .skip, Try.func89, rfl, by kernel_rfl, by kernel_rfl, rfl⟩
theorem ok_ref10_with : FnOk Try.prog 88 (ref10_with.c 67) ref10_with.r ref10_with.n := ⟨Try.f88, (Try.f88.body).getD .skip, Try.func88, rfl, by kernel_rfl, by kernel_rfl, rfl⟩
end Go.Proofs.Ytmgfinibgfjmpaa
