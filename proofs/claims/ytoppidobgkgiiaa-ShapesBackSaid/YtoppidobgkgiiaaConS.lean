/- What the program's functions that scale and mirror meshes do to values. -/
import Derived.Test.YtoppidobgkgiiaaConM
import Derived.Test.YtoppidobgkgiiaaGoShpU
set_option linter.unusedVariables false
set_option linter.unusedSimpArgs false
namespace Go.Proofs.Ytoppidobgkgiiaa
open Go.Abs

theorem k_Reverse : ReverseC Try.prog 59 := mesh_Reverse_ok mix ok_mesh_Reverse k_Check
theorem k_Mirror : MirrorC Try.prog 25 := shapes_Mirror_ok mix ok_shapes_Mirror k_Check k_Reverse ok_shapes_change k_cloneV k_cloneT ok_shapes_Mirror_1 (by kernel_rfl)
end Go.Proofs.Ytoppidobgkgiiaa
