/- The program's functions are those whose code the library's texts hold. -/
import Derived.Test.YtmgfinibgfjmpaaRows
import Derived.Test.YtmgfinibgfjmpaaGoQj
set_option linter.unusedVariables false
set_option linter.unusedSimpArgs false
namespace Go.Proofs.Ytmgfinibgfjmpaa
open Go.Abs

theorem ok_law11_OrientResults : FnOk Try.prog 4 (law11_OrientResults.c 10 13 14 15 16) law11_OrientResults.r law11_OrientResults.n := ⟨Try.f4, (Try.f4.body).getD .skip, Try.func4, rfl, by kernel_rfl, by kernel_rfl, rfl⟩
theorem ok_ref11_Orient : FnOk Try.prog 15 (ref11_Orient.c 27 37 38 28) ref11_Orient.r ref11_Orient.n := ⟨Try.f15, (Try.f15.body).getD .skip, Try.func15, rfl, by kernel_rfl, by kernel_rfl, rfl⟩
theorem ok_ref11_spread : FnOk Try.prog 38 (ref11_spread.c 54 20) ref11_spread.r ref11_spread.n := ⟨Try.f38, (Try.f38.body).getD .skip, Try.func38, rfl, by kernel_rfl, by kernel_rfl, rfl⟩
theorem ok_ref11_common : FnOk Try.prog 54 (ref11_common.c 51) ref11_common.r ref11_common.n := ⟨Try.f54, (Try.f54.body).getD .skip, Try.func54, rfl, by kernel_rfl, by kernel_rfl, rfl⟩
end Go.Proofs.Ytmgfinibgfjmpaa
