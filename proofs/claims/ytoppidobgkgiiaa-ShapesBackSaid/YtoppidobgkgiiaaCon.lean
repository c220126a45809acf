/- What the program's functions do to values. -/
import Derived.Test.YtoppidobgkgiiaaRun
import Derived.Test.YtoppidobgkgiiaaGoShpU
set_option linter.unusedVariables false
set_option linter.unusedSimpArgs false
namespace Go.Proofs.Ytoppidobgkgiiaa
open Go.Abs

theorem k_vValid : ValidC Try.prog 62 := vec_Valid_ok mix ok_vec_Valid (vec_within_ok mix ok_vec_within)
theorem k_fits : FitsVC Try.prog 33 := shapes_fits_ok mix ok_shapes_fits k_vValid
theorem k_near : NearC Try.prog 34 := shapes_near_ok mix ok_shapes_near
theorem k_plus : PlusC Try.prog 35 := shapes_plus_ok mix ok_shapes_plus
theorem k_cloneV : CloneC Try.prog 37 3 := slices_Clone3_ok mix ok_slices_Clone_api_Vec_api_Vec
theorem k_cloneT : CloneC Try.prog 72 3 := slices_CloneT_ok mix ok_slices_Clone_api_Tri_api_Tri
end Go.Proofs.Ytoppidobgkgiiaa
