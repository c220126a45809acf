/- What the program's functions on shells and volumes do to values. -/
import Derived.Test.YtmgfinibgfjmpaaOkC
import Derived.Test.YtmgfinibgfjmpaaCon
import Derived.Test.YtmgfinibgfjmpaaRows
import Derived.Shelf.SlSortCmp.WholeK
import Derived.Shelf.SortM.Plain
import Derived.Shelf.SortM.SortNone
import Derived.Test.YtmgfinibgfjmpaaAbsX
set_option linter.unusedVariables false
set_option linter.unusedSimpArgs false
namespace Go.Proofs.Ytmgfinibgfjmpaa
open Go.Abs

theorem k_place : PlaceC Try.prog 67 := ref10_place_ok mix ok_ref10_place (ref10_before_ok mix ok_ref10_before)
theorem k_number : NumberC Try.prog 69 := ref10_number_ok mix ok_ref10_number k_place
theorem k_with : WithC Try.prog 88 := ref10_with_ok mix ok_ref10_with k_place
theorem k_Directed : EdgesC Try.prog 66 := ref10_Directed_ok mix ok_ref10_Directed
theorem k_rund : UndC Try.prog 68 := ref10_Undirected_ok mix ok_ref10_Undirected
theorem k_undir : UndirC Try.prog 65 := ref10_undirected_ok mix ok_ref10_undirected k_Directed k_rund k_with
theorem k_spread : SpreadFC Try.prog 53 := ref10_spread_ok mix ok_ref10_spread k_undir k_Directed k_rund k_place k_number
theorem k_rShells : ShellsC Try.prog 37 := ref10_Shells_ok mix ok_ref10_Shells k_Check7 k_spread
theorem k_Same : SameMC Try.prog 16 := ref07_Same_ok mix ok_ref07_Same
theorem k_Rev3 : RevTC Try.prog 35 := orient_reversed_ok mix ok_orient_reversed
theorem k_rRev3 : RevTC Try.prog 20 := ref11_Reversed_ok mix ok_ref11_Reversed
theorem k_CloneV : CloneC Try.prog 36 3 := slices_Clone3_ok mix ok_slices_Clone_api_Vec_api_Vec
theorem k_CloneT : CloneC Try.prog 30 3 := slices_CloneT_ok mix ok_slices_Clone_api_Tri_api_Tri
end Go.Proofs.Ytmgfinibgfjmpaa
