/- What the program's functions of chapter 11 do to values. -/
import Derived.Test.YtmgfinibgfjmpaaRun
import Derived.Test.YtmgfinibgfjmpaaGoQl
import Derived.Test.YtmgfinibgfjmpaaGoOriA
set_option linter.unusedVariables false
set_option linter.unusedSimpArgs false
namespace Go.Proofs.Ytmgfinibgfjmpaa
open Go.Abs

theorem k_Check : CheckC Try.prog 17 := mesh_Check_ok mix ok_mesh_Check (vec_Valid_ok mix ok_vec_Valid (vec_within_ok mix ok_vec_within))
theorem k_edges : EdgesC Try.prog 31 := orient_edges_ok mix ok_orient_edges
theorem k_coh : CohC Try.prog 26 := orient_coherent_ok mix ok_orient_coherent k_edges
theorem k_Small : SmallOC Try.prog 10 := law11_Small_ok mix ok_law11_Small
end Go.Proofs.Ytmgfinibgfjmpaa
