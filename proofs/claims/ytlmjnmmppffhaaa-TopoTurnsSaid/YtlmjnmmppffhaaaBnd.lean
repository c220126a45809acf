/- What the functions on boundaries do to values. -/
import Derived.Test.YtlmjnmmppffhaaaOk
import Derived.Test.YtlmjnmmppffhaaaLay
import Derived.Test.YtlmjnmmppffhaaaGoKnB
set_option linter.unusedVariables false
set_option linter.unusedSimpArgs false
namespace Go.Proofs.Ytlmjnmmppffhaaa
open Go.Abs

theorem mix : Try.prog.follows .mixedOrders = true := by rfl
theorem k_vValid : ValidC Try.prog 48 := vec_Valid_ok mix ok_vec_Valid (vec_within_ok mix ok_vec_within)
theorem k_Check : CheckC Try.prog 25 := mesh_Check_ok mix ok_mesh_Check k_vValid
theorem k_Sort : SortC Try.prog 40 2 := sort_ok sortEdgeL Try.isAgg27 Try.sizeOf27
theorem k_edges : EdgesC Try.prog 45 := topo_edges_ok mix ok_topo_edges
theorem k_counted : CountedC Try.prog 33 := topo_counted_ok mix ok_topo_counted k_Check k_edges
theorem k_rev : RevC Try.prog 34 := topo_reverse_ok mix ok_topo_reverse
theorem k_und : UndC Try.prog 39 := topo_undirected_ok mix ok_topo_undirected
theorem k_Cmp : CmpC Try.prog 57 := Compare_ok mix ok_cmp_Compare_int (isNaN_ok mix ok_cmp_isNaN_int)
theorem k_order : OrderC Try.prog 41 := topo_order_ok mix ok_topo_order k_Cmp (Or_ok mix ok_cmp_Or_int)
theorem k_Boundary : BoundaryC Try.prog 16 := topo_Boundary_ok mix ok_topo_Boundary k_counted k_rev k_Sort k_order (by kernel_rfl)
theorem k_Edges : EdgesLC Try.prog 14 := topo_Edges_ok mix ok_topo_Edges k_counted k_rev k_und k_Sort k_order (by kernel_rfl)
end Go.Proofs.Ytlmjnmmppffhaaa
