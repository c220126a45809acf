/- What the functions on boundaries do to values. -/
import Derived.Test.YtaffnmhokdhgdaaBOk
import Derived.Test.YtaffnmhokdhgdaaCon
import Derived.Test.YtaffnmhokdhgdaaLay
set_option linter.unusedVariables false
set_option linter.unusedSimpArgs false
namespace Go.Proofs.Ytaffnmhokdhgdaa
open Go.Abs

theorem k_Sort : SortC Try.prog 33 2 := sort_ok sortEdgeL Try.isAgg64 Try.sizeOf64
theorem k_edges : EdgesC Try.prog 36 := topo_edges_ok mix ok_topo_edges
theorem k_counted : CountedC Try.prog 31 := topo_counted_ok mix ok_topo_counted k_Check k_edges
theorem k_rev : RevC Try.prog 32 := topo_reverse_ok mix ok_topo_reverse
theorem k_Cmp : CmpC Try.prog 40 := Compare_ok mix ok_cmp_Compare_int (isNaN_ok mix ok_cmp_isNaN_int)
theorem k_order : OrderC Try.prog 34 := topo_order_ok mix ok_topo_order k_Cmp (Or_ok mix ok_cmp_Or_int)
theorem k_Boundary : BoundaryC Try.prog 27 := topo_Boundary_ok mix ok_topo_Boundary k_counted k_rev k_Sort k_order (by kernel_rfl)
theorem k_Closed : ClosedC Try.prog 18 := topo_Closed_ok mix ok_topo_Closed k_Check k_Boundary
theorem k_balanced : BalC Try.prog 19 := law15_balanced_ok mix ok_law15_balanced
end Go.Proofs.Ytaffnmhokdhgdaa
