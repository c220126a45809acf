/- What the program's functions on shells and volumes do to values. -/
import Derived.Test.YtmgfinibgfjmpaaOkC
import Derived.Test.YtmgfinibgfjmpaaCon
import Derived.Test.YtmgfinibgfjmpaaLay
import Derived.Test.YtmgfinibgfjmpaaLayJ
import Derived.Test.YtmgfinibgfjmpaaAbsSI
set_option linter.unusedVariables false
set_option linter.unusedSimpArgs false
namespace Go.Proofs.Ytmgfinibgfjmpaa
open Go.Abs

theorem k_Sort : SortC Try.prog 81 2 := sort_ok sortEdgeL Try.isAgg38 Try.sizeOf38
theorem k_SortI : SortIC Try.prog 44 := sortI_ok sortIntL
theorem k_tedges : EdgesC Try.prog 42 := topo_edges_ok mix ok_topo_edges
theorem k_counted : CountedC Try.prog 40 := topo_counted_ok mix ok_topo_counted k_Check k_tedges
theorem k_rev : RevC Try.prog 41 := topo_reverse_ok mix ok_topo_reverse
theorem k_und : UndC Try.prog 43 := topo_undirected_ok mix ok_topo_undirected
theorem k_Cmp : CmpC Try.prog 98 := Compare_ok mix ok_cmp_Compare_int (isNaN_ok mix ok_cmp_isNaN_int)
theorem k_order : OrderC Try.prog 82 := topo_order_ok mix ok_topo_order k_Cmp (Or_ok mix ok_cmp_Or_int)
theorem k_Boundary : BoundaryC Try.prog 58 := topo_Boundary_ok mix ok_topo_Boundary k_counted k_rev k_Sort k_order (by kernel_rfl)
theorem k_Closed : ClosedC Try.prog 45 := topo_Closed_ok mix ok_topo_Closed k_Check k_Boundary
theorem k_Shells : ShellsC Try.prog 21 := topo_Shells_ok mix ok_topo_Shells k_Check k_tedges k_und k_SortI
theorem k_place : PlaceC Try.prog 67 := ref10_place_ok mix ok_ref10_place (ref10_before_ok mix ok_ref10_before)
theorem k_number : NumberC Try.prog 69 := ref10_number_ok mix ok_ref10_number k_place
theorem k_with : WithC Try.prog 88 := ref10_with_ok mix ok_ref10_with k_place
theorem k_Directed : EdgesC Try.prog 66 := ref10_Directed_ok mix ok_ref10_Directed
theorem k_counts : CountsC Try.prog 83 := ref10_counts_ok mix ok_ref10_counts k_Directed k_with k_place
theorem k_rund : UndC Try.prog 68 := ref10_Undirected_ok mix ok_ref10_Undirected
theorem k_undir : UndirC Try.prog 65 := ref10_undirected_ok mix ok_ref10_undirected k_Directed k_rund k_with
theorem k_rrev : RevC Try.prog 84 := ref10_reverse_ok mix ok_ref10_reverse
theorem k_rBoundary : BoundaryC Try.prog 59 := ref10_Boundary_ok mix ok_ref10_Boundary k_Check7 k_counts k_rrev k_number
theorem k_rClosed : ClosedC Try.prog 46 := ref10_Closed_ok mix ok_ref10_Closed k_Check7 k_rBoundary
theorem k_spread : SpreadFC Try.prog 53 := ref10_spread_ok mix ok_ref10_spread k_undir k_Directed k_rund k_place k_number
theorem k_rShells : ShellsC Try.prog 37 := ref10_Shells_ok mix ok_ref10_Shells k_Check7 k_spread
theorem k_within : WithinC Try.prog 55 := vec_within_ok mix ok_vec_within
theorem k_small : SmallVC Try.prog 61 := vec_small_ok mix ok_vec_small k_within
theorem k_Det : DetC Try.prog 49 := vec_Det_ok mix ok_vec_Det k_small (vec_Cross_ok mix ok_vec_Cross k_small) (vec_Dot_ok mix ok_vec_Dot k_small k_within)
theorem k_Vol : VolC Try.prog 25 := mesh_Volume6_ok mix ok_mesh_Volume6 k_Check k_Det
theorem k_rwithin : WithinC Try.prog 64 := ref04_within_ok mix ok_ref04_within
theorem k_rsmall : SmallVC Try.prog 85 := ref04_small_ok mix ok_ref04_small k_rwithin
theorem k_rDet : DetC Try.prog 60 := ref04_Det_ok mix ok_ref04_Det k_rsmall (ref04_Cross_ok mix ok_ref04_Cross k_rsmall) (ref04_Dot_ok mix ok_ref04_Dot k_rsmall k_rwithin)
theorem k_rVol : VolC Try.prog 47 := ref07_Volume6_ok mix ok_ref07_Volume6 k_Check7 k_rDet
theorem k_Same : SameMC Try.prog 16 := ref07_Same_ok mix ok_ref07_Same
theorem k_Rev3 : RevTC Try.prog 35 := orient_reversed_ok mix ok_orient_reversed
theorem k_rRev3 : RevTC Try.prog 20 := ref11_Reversed_ok mix ok_ref11_Reversed
theorem k_CloneV : CloneC Try.prog 36 3 := slices_Clone3_ok mix ok_slices_Clone_api_Vec_api_Vec
theorem k_CloneT : CloneC Try.prog 30 3 := slices_CloneT_ok mix ok_slices_Clone_api_Tri_api_Tri
theorem k_Outward : OutwardC Try.prog 23 := orient_Outward_ok mix ok_orient_Outward k_Check k_Closed k_coh k_CloneV k_CloneT k_Shells k_Vol k_Rev3
theorem k_rOutward : OutwardC Try.prog 24 := ref11_Outward_ok mix ok_ref11_Outward k_Check7 k_rClosed k_coh11 k_rShells (ref11_part_ok mix ok_ref11_part) k_rVol k_rRev3
end Go.Proofs.Ytmgfinibgfjmpaa
