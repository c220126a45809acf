/- What Orient does to values. -/
import Derived.Test.YtmgfinibgfjmpaaOkD
import Derived.Test.YtmgfinibgfjmpaaConC
set_option linter.unusedVariables false
set_option linter.unusedSimpArgs false
namespace Go.Proofs.Ytmgfinibgfjmpaa
open Go.Abs

theorem k_both : UndC Try.prog 32 := orient_both_ok mix ok_orient_both
theorem k_Has : HasEC Try.prog 34 := slices_ContainsE_ok mix ok_slices_Contains_api_Edge_api_Edge (slices_IndexE_ok mix ok_slices_Index_api_Edge_api_Edge)
theorem k_Visit : VisitC Try.prog 33 := orient_visit_ok mix ok_orient_Orient_1 k_edges k_Has k_Rev3
theorem k_Orient : OrientC Try.prog 14 := orient_Orient_ok mix ok_orient_Orient k_Check k_CloneT k_edges k_both k_Visit (by kernel_rfl) k_coh k_CloneV
theorem k_vecs : VecsC Try.prog 19 := law11_vecs_ok mix ok_law11_vecs
theorem k_same : SameFC Try.prog 22 := law11_same_ok mix ok_law11_same k_vecs k_rRev3
end Go.Proofs.Ytmgfinibgfjmpaa
