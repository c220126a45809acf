/- The program's functions are those whose code the library's texts hold. -/
import Derived.Test.YtmgfinibgfjmpaaRows
import Derived.Test.YtmgfinibgfjmpaaGoQl
set_option linter.unusedVariables false
set_option linter.unusedSimpArgs false
namespace Go.Proofs.Ytmgfinibgfjmpaa
open Go.Abs

theorem ok_law11_OrientFlips : FnOk Try.prog 7 (law11_OrientFlips.c 10 17 13 21 20 14 22) law11_OrientFlips.r law11_OrientFlips.n := ⟨Try.f7, (Try.f7.body).getD .skip, Try.func7, rfl, by kernel_rfl, by kernel_rfl, rfl⟩
theorem ok_law11_same : FnOk Try.prog 22 (law11_same.c 19 20) law11_same.r law11_same.n := ⟨Try.f22, (Try.f22.body).getD .skip, Try.func22, rfl, by kernel_rfl, by kernel_rfl, rfl⟩
theorem ok_law11_vecs : FnOk Try.prog 19 law11_vecs.c law11_vecs.r law11_vecs.n := ⟨Try.f19, (Try.f19.body).getD .skip, Try.func19, rfl, by kernel_rfl, by kernel_rfl, rfl⟩
end Go.Proofs.Ytmgfinibgfjmpaa
