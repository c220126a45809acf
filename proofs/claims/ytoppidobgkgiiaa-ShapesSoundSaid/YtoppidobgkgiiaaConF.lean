/- What the program's functions on shells, Euler's number and volumes do to values. -/
import Derived.Test.YtoppidobgkgiiaaOkF
import Derived.Test.YtoppidobgkgiiaaConB
import Derived.Test.YtoppidobgkgiiaaLay
import Derived.Test.YtoppidobgkgiiaaLayJ
import Derived.Test.YtoppidobgkgiiaaAbsST
import Derived.Test.YtoppidobgkgiiaaAbsSI
set_option linter.unusedVariables false
set_option linter.unusedSimpArgs false
namespace Go.Proofs.Ytoppidobgkgiiaa
open Go.Abs

theorem k_Check : CheckC Try.prog 27 := mesh_Check_ok mix ok_mesh_Check k_vValid
theorem k_Sort : SortC Try.prog 79 2 := sort_ok sortEdgeL Try.isAgg92 Try.sizeOf92
theorem k_SortI : SortIC Try.prog 87 := sortI_ok sortIntL
theorem k_tedges : EdgesC Try.prog 85 := topo_edges_ok mix ok_topo_edges
theorem k_counted : CountedC Try.prog 77 := topo_counted_ok mix ok_topo_counted k_Check k_tedges
theorem k_rev : RevC Try.prog 78 := topo_reverse_ok mix ok_topo_reverse
theorem k_und : UndC Try.prog 86 := topo_undirected_ok mix ok_topo_undirected
theorem k_Cmp : CmpC Try.prog 94 := Compare_ok mix ok_cmp_Compare_int (isNaN_ok mix ok_cmp_isNaN_int)
theorem k_order : OrderC Try.prog 80 := topo_order_ok mix ok_topo_order k_Cmp (Or_ok mix ok_cmp_Or_int)
theorem k_Boundary : BoundaryC Try.prog 63 := topo_Boundary_ok mix ok_topo_Boundary k_counted k_rev k_Sort k_order (by kernel_rfl)
theorem k_Closed : ClosedC Try.prog 29 := topo_Closed_ok mix ok_topo_Closed k_Check k_Boundary
theorem k_Edges : EdgesLC Try.prog 88 := topo_Edges_ok mix ok_topo_Edges k_counted k_rev k_und k_Sort k_order (by kernel_rfl)
theorem k_Euler : EulerC Try.prog 67 := topo_Euler_ok mix ok_topo_Euler k_Check k_Edges
theorem k_Shells : ShellsC Try.prog 66 := topo_Shells_ok mix ok_topo_Shells k_Check k_tedges k_und k_SortI
theorem k_Coherent : CoherentC Try.prog 65 := orient_Coherent_ok mix ok_orient_Coherent k_Check (orient_coherent_ok mix ok_orient_coherent (orient_edges_ok mix ok_orient_edges))
theorem k_small : SmallVC Try.prog 81 := vec_small_ok mix ok_vec_small (vec_within_ok mix ok_vec_within)
theorem k_Det : DetC Try.prog 64 := vec_Det_ok mix ok_vec_Det k_small (vec_Cross_ok mix ok_vec_Cross k_small) (vec_Dot_ok mix ok_vec_Dot k_small (vec_within_ok mix ok_vec_within))
theorem k_Vol : VolC Try.prog 30 := mesh_Volume6_ok mix ok_mesh_Volume6 k_Check k_Det
theorem k_sound : SoundC Try.prog 31 := law13_sound_ok mix ok_law13_sound k_Closed k_Coherent k_Shells k_Euler k_Vol
theorem k_Area2 : Area2C Try.prog 32 := planar_Area2_ok mix ok_planar_Area2 (planar_Valid_ok mix ok_planar_Valid)
end Go.Proofs.Ytoppidobgkgiiaa
