/- What the program's functions do to values. -/
import Derived.Test.YtoppidobgkgiiaaRun
import Derived.Test.YtoppidobgkgiiaaGoShpL
set_option linter.unusedVariables false
set_option linter.unusedSimpArgs false
namespace Go.Proofs.Ytoppidobgkgiiaa
open Go.Abs

theorem k_vValid : ValidC Try.prog 62 := vec_Valid_ok mix ok_vec_Valid (vec_within_ok mix ok_vec_within)
theorem k_rValid : ValidC Try.prog 39 := ref04_Valid_ok mix ok_ref04_Valid (ref04_within_ok mix ok_ref04_within)
theorem k_fits : FitsVC Try.prog 33 := shapes_fits_ok mix ok_shapes_fits k_vValid
theorem k_near : NearC Try.prog 34 := shapes_near_ok mix ok_shapes_near
theorem k_plus : PlusC Try.prog 35 := shapes_plus_ok mix ok_shapes_plus
theorem k_corners : CornersBC Try.prog 36 := shapes_corners_ok mix ok_shapes_corners k_plus
theorem k_cloneV : CloneC Try.prog 37 3 := slices_Clone3_ok mix ok_slices_Clone_api_Vec_api_Vec
theorem k_cloneT : CloneC Try.prog 72 3 := slices_CloneT_ok mix ok_slices_Clone_api_Tri_api_Tri
theorem k_Box : BoxC Try.prog 9 := shapes_Box_ok mix ok_shapes_Box k_fits k_near k_plus k_corners k_cloneV
theorem r_Add : AddC Try.prog 44 := ref01_Add_ok mix ok_ref01_Add
theorem r_sums : SumsC Try.prog 38 := ref13_sums_ok mix ok_ref13_sums r_Add k_rValid
theorem r_Box : BoxC Try.prog 10 := ref13_Box_ok mix ok_ref13_Box r_sums k_rValid
theorem r_Same : SameMC Try.prog 11 := ref07_Same_ok mix ok_ref07_Same
end Go.Proofs.Ytoppidobgkgiiaa
