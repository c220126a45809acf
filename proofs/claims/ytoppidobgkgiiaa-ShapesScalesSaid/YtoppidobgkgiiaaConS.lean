/- What the program's functions that scale and mirror meshes do to values. -/
import Derived.Test.YtoppidobgkgiiaaConM
import Derived.Test.YtoppidobgkgiiaaGoShpU
set_option linter.unusedVariables false
set_option linter.unusedSimpArgs false
namespace Go.Proofs.Ytoppidobgkgiiaa
open Go.Abs

theorem k_Round : RoundC Try.prog 56 := num_Round_ok mix ok_num_Round (num_Floor_ok mix ok_num_Floor)
theorem r_Round : RoundC Try.prog 58 := ref01_Round_ok mix ok_ref01_Round (ref01_Floor_ok mix ok_ref01_Floor) (ref01_size_ok mix ok_ref01_size)
theorem r_valid' : FitsVC Try.prog 46 := ref13_valid_ok mix ok_ref13_valid k_rValid
theorem k_Scale : ScaleC Try.prog 23 := shapes_Scale_ok mix ok_shapes_Scale k_Check ok_shapes_change k_cloneV k_cloneT ok_shapes_Scale_1 (by kernel_rfl) ok_shapes_Scale_2 (by kernel_rfl) k_Round k_checked
theorem r_Scale : ScaleC Try.prog 24 := ref13_Scale_ok mix ok_ref13_Scale r_Check r_Round r_valid' r_with
theorem k_Reverse : ReverseC Try.prog 59 := mesh_Reverse_ok mix ok_mesh_Reverse k_Check
theorem k_Mirror : MirrorC Try.prog 25 := shapes_Mirror_ok mix ok_shapes_Mirror k_Check k_Reverse ok_shapes_change k_cloneV k_cloneT ok_shapes_Mirror_1 (by kernel_rfl)
theorem r_Reverse : RevNewC Try.prog 61 := ref07_Reverse_ok mix ok_ref07_Reverse r_Check
theorem r_Mirror : MirrorC Try.prog 26 := ref13_Mirror_ok mix ok_ref13_Mirror r_Check r_Reverse
end Go.Proofs.Ytoppidobgkgiiaa
