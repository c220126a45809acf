/- What the program's functions on shells and volumes do to values. -/
import Derived.Test.YtmgfinibgfjmpaaOkC
import Derived.Test.YtmgfinibgfjmpaaCon
import Derived.Test.YtmgfinibgfjmpaaRows
import Derived.Shelf.SlSortCmp.WholeK
import Derived.Shelf.SortM.Plain
import Derived.Shelf.SortM.SortNone
import Derived.Test.YtmgfinibgfjmpaaAbsO
set_option linter.unusedVariables false
set_option linter.unusedSimpArgs false
namespace Go.Proofs.Ytmgfinibgfjmpaa
open Go.Abs

theorem k_tedges : EdgesC Try.prog 42 := topo_edges_ok mix ok_topo_edges
theorem k_counted : CountedC Try.prog 40 := topo_counted_ok mix ok_topo_counted k_Check k_tedges
theorem k_rev : RevC Try.prog 41 := topo_reverse_ok mix ok_topo_reverse
theorem k_Rev3 : RevTC Try.prog 35 := orient_reversed_ok mix ok_orient_reversed
theorem k_CloneV : CloneC Try.prog 36 3 := slices_Clone3_ok mix ok_slices_Clone_api_Vec_api_Vec
theorem k_CloneT : CloneC Try.prog 30 3 := slices_CloneT_ok mix ok_slices_Clone_api_Tri_api_Tri
end Go.Proofs.Ytmgfinibgfjmpaa
