/- What the program's functions that move meshes do to values. -/
import Derived.Test.YtoppidobgkgiiaaCon
import Derived.Test.YtoppidobgkgiiaaGoShpU
set_option linter.unusedVariables false
set_option linter.unusedSimpArgs false
namespace Go.Proofs.Ytoppidobgkgiiaa
open Go.Abs

theorem k_Check : CheckC Try.prog 27 := mesh_Check_ok mix ok_mesh_Check k_vValid
theorem k_checked : CheckedC Try.prog 48 := shapes_checked_ok mix ok_shapes_checked k_fits
theorem k_Move : MoveC Try.prog 19 := shapes_Move_ok mix ok_shapes_Move k_Check k_near ok_shapes_change k_cloneV k_cloneT ok_shapes_Move_1 (by kernel_rfl) k_plus k_checked
theorem k_Turn : TurnC Try.prog 21 := shapes_Turn_ok mix ok_shapes_Turn k_Check ok_shapes_change k_cloneV k_cloneT ok_shapes_Turn_1 (by kernel_rfl) ok_shapes_Turn_2 (by kernel_rfl)
theorem k_heavy : HeavyC Try.prog 18 := law13_heavy_ok mix ok_law13_heavy
end Go.Proofs.Ytoppidobgkgiiaa
