/- What the program's functions do to values. -/
import Derived.Test.YtoppidobgkgiiaaRun
import Derived.Test.YtoppidobgkgiiaaGoShpM
set_option linter.unusedVariables false
set_option linter.unusedSimpArgs false
namespace Go.Proofs.Ytoppidobgkgiiaa
open Go.Abs

theorem k_vValid : ValidC Try.prog 62 := vec_Valid_ok mix ok_vec_Valid (vec_within_ok mix ok_vec_within)
theorem k_fits : FitsVC Try.prog 33 := shapes_fits_ok mix ok_shapes_fits k_vValid
theorem k_near : NearC Try.prog 34 := shapes_near_ok mix ok_shapes_near
theorem k_plus : PlusC Try.prog 35 := shapes_plus_ok mix ok_shapes_plus
theorem k_corners : CornersBC Try.prog 36 := shapes_corners_ok mix ok_shapes_corners k_plus
theorem k_cloneV : CloneC Try.prog 37 3 := slices_Clone3_ok mix ok_slices_Clone_api_Vec_api_Vec
theorem k_Box : BoxC Try.prog 9 := shapes_Box_ok mix ok_shapes_Box k_fits k_near k_plus k_corners k_cloneV
end Go.Proofs.Ytoppidobgkgiiaa
