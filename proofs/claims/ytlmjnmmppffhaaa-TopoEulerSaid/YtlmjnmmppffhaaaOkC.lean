/- The program's functions are those whose code the library's texts hold. -/
import Derived.Test.YtlmjnmmppffhaaaRows
import Derived.Test.YtlmjnmmppffhaaaGoJo
set_option linter.unusedVariables false
set_option linter.unusedSimpArgs false
namespace Go.Proofs.Ytlmjnmmppffhaaa
open Go.Abs

theorem ok_law10_TopoEuler : FnOk Try.prog 8 (law10_TopoEuler.c 9 10 28 29 30) law10_TopoEuler.r law10_TopoEuler.n := ⟨Try.f8, (Try.f8.body).getD .skip, Try.func8, rfl, by kernel_rfl, by kernel_rfl, rfl⟩
theorem ok_ref10_Euler : FnOk Try.prog 30 (ref10_Euler.c 35 15) ref10_Euler.r ref10_Euler.n := ⟨Try.f30, (Try.f30.body).getD .skip, Try.func30, rfl, by kernel_rfl, by kernel_rfl, rfl⟩
theorem ok_mesh_Join : FnOk Try.prog 28 (mesh_Join.c 25) mesh_Join.r mesh_Join.n := ⟨Try.f28, (Try.f28.body).getD .skip, Try.func28, rfl, by kernel_rfl, by kernel_rfl, rfl⟩

end Go.Proofs.Ytlmjnmmppffhaaa
