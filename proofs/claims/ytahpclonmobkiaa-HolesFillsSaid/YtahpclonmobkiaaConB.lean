/- What the program's functions do to values. -/
import Derived.Test.YtahpclonmobkiaaOkB
import Derived.Test.YtahpclonmobkiaaCon
set_option linter.unusedVariables false
set_option linter.unusedSimpArgs false
namespace Go.Proofs.Ytahpclonmobkiaa
open Go.Abs

theorem k_rValid : ValidC Try.prog 32 := ref04_Valid_ok mix ok_ref04_Valid (ref04_within_ok mix ok_ref04_within)
theorem k_rCheck : CheckC Try.prog 16 := ref07_Check_ok mix ok_ref07_Check k_rValid
theorem k_few : FewHC Try.prog 11 := law12_few_ok mix ok_law12_few
theorem k_Loops : LoopsC Try.prog 15 := topo_Loops_ok mix ok_topo_Loops k_Check k_counted k_Boundary k_rev
theorem k_place : PlaceC Try.prog 48 := ref10_place_ok mix ok_ref10_place (ref10_before_ok mix ok_ref10_before)
theorem k_number : NumberC Try.prog 35 := ref10_number_ok mix ok_ref10_number k_place
theorem k_counts : CountsC Try.prog 34 := ref10_counts_ok mix ok_ref10_counts (ref10_Directed_ok mix ok_ref10_Directed) (ref10_with_ok mix ok_ref10_with k_place) k_place
theorem k_rrev : RevC Try.prog 36 := ref10_reverse_ok mix ok_ref10_reverse
theorem k_rBoundary : BoundaryC Try.prog 20 := ref10_Boundary_ok mix ok_ref10_Boundary k_rCheck k_counts k_rrev k_number
theorem k_rUses : UsesC Try.prog 21 := ref10_Uses_ok mix ok_ref10_Uses k_rCheck k_counts k_rrev k_number
theorem k_rLoops : LoopsC Try.prog 28 := ref10_Loops_ok mix ok_ref10_Loops k_rCheck k_rBoundary (ref10_simple_ok mix ok_ref10_simple k_counts k_number k_rrev) (ref10_source_ok mix ok_ref10_source)
theorem k_Closed : ClosedC Try.prog 17 := topo_Closed_ok mix ok_topo_Closed k_Check k_Boundary
theorem k_rClosed : ClosedC Try.prog 18 := ref10_Closed_ok mix ok_ref10_Closed k_rCheck k_rBoundary
theorem k_Fill : FillC Try.prog 12 := holes_Fill_ok mix ok_holes_Fill k_Check k_Loops (slices_Clone3_ok mix ok_slices_Clone_api_Vec_api_Vec) (slices_CloneT_ok mix ok_slices_Clone_api_Tri_api_Tri) k_Fan (holes_extend_ok mix ok_holes_extend)
theorem k_rFill : FillC Try.prog 13 := ref12_Fill_ok mix ok_ref12_Fill k_rCheck k_rLoops k_rFan
theorem k_Same : SameMC Try.prog 14 := ref07_Same_ok mix ok_ref07_Same
theorem k_Coh : CoherentC Try.prog 19 := orient_Coherent_ok mix ok_orient_Coherent k_Check (orient_coherent_ok mix ok_orient_coherent (orient_edges_ok mix ok_orient_edges))
theorem k_rCoh : CoherentC Try.prog 22 := ref11_Coherent_ok mix ok_ref11_Coherent k_rCheck (ref11_coherent_ok mix ok_ref11_coherent (ref11_uses_ok mix ok_ref11_uses))
end Go.Proofs.Ytahpclonmobkiaa
