/- The program's functions are those whose code the library's texts hold. -/
import Derived.Test.YtmgfinibgfjmpaaRows
import Derived.Test.YtmgfinibgfjmpaaGoQk
set_option linter.unusedVariables false
set_option linter.unusedSimpArgs false
namespace Go.Proofs.Ytmgfinibgfjmpaa
open Go.Abs

theorem ok_law11_OrientCoherent : FnOk Try.prog 6 (law11_OrientCoherent.c 10 13 14 11 19 20 21 16) law11_OrientCoherent.r law11_OrientCoherent.n := ⟨Try.f6, (Try.f6.body).getD .skip, Try.func6, rfl, by kernel_rfl, by kernel_rfl, rfl⟩
theorem ok_law11_vecs : FnOk Try.prog 19 law11_vecs.c law11_vecs.r law11_vecs.n := ⟨Try.f19, (Try.f19.body).getD .skip, Try.func19, rfl, by kernel_rfl, by kernel_rfl, rfl⟩
end Go.Proofs.Ytmgfinibgfjmpaa
