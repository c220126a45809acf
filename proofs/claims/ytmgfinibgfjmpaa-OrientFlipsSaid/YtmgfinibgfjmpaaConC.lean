/- What the program's functions on shells and volumes do to values. -/
import Derived.Test.YtmgfinibgfjmpaaOkC
import Derived.Test.YtmgfinibgfjmpaaCon
import Derived.Test.YtmgfinibgfjmpaaRows
import Derived.Shelf.SlSortCmp.WholeK
import Derived.Test.YtmgfinibgfjmpaaLayJ
import Derived.Test.YtmgfinibgfjmpaaAbsSI
set_option linter.unusedVariables false
set_option linter.unusedSimpArgs false
namespace Go.Proofs.Ytmgfinibgfjmpaa
open Go.Abs

theorem k_SortI : SortIC Try.prog 44 := sortI_ok sortIntL
theorem k_tedges : EdgesC Try.prog 42 := topo_edges_ok mix ok_topo_edges
theorem k_und : UndC Try.prog 43 := topo_undirected_ok mix ok_topo_undirected
theorem k_Shells : ShellsC Try.prog 21 := topo_Shells_ok mix ok_topo_Shells k_Check k_tedges k_und k_SortI
theorem k_Rev3 : RevTC Try.prog 35 := orient_reversed_ok mix ok_orient_reversed
theorem k_rRev3 : RevTC Try.prog 20 := ref11_Reversed_ok mix ok_ref11_Reversed
theorem k_CloneV : CloneC Try.prog 36 3 := slices_Clone3_ok mix ok_slices_Clone_api_Vec_api_Vec
theorem k_CloneT : CloneC Try.prog 30 3 := slices_CloneT_ok mix ok_slices_Clone_api_Tri_api_Tri
end Go.Proofs.Ytmgfinibgfjmpaa
