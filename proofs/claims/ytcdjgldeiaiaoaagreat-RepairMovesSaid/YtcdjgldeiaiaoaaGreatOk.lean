/- The program's functions are those whose code the library's texts hold. -/
import Derived.Test.YtcdjgldeiaiaoaaGreatRows
import Derived.Test.YtcdjgldeiaiaoaaGreatGoHr
import Derived.Test.YtcdjgldeiaiaoaaGreatGoClone
import Derived.Test.YtcdjgldeiaiaoaaGreatGoToB
import Derived.Test.YtcdjgldeiaiaoaaGreatGoLpA
import Derived.Test.YtcdjgldeiaiaoaaGreatGoLq
import Derived.Test.YtcdjgldeiaiaoaaGreatGoRevC
import Derived.Test.YtcdjgldeiaiaoaaGreatGoOriA
import Derived.Test.YtcdjgldeiaiaoaaGreatGoTal
import Derived.Test.YtcdjgldeiaiaoaaGreatGoSecH
import Derived.Test.YtcdjgldeiaiaoaaGreatGoRpE
import Derived.Test.YtcdjgldeiaiaoaaGreatGoQd
import Derived.Test.YtcdjgldeiaiaoaaGreatGoQf
import Derived.Test.YtcdjgldeiaiaoaaGreatGoRv
import Derived.Test.YtcdjgldeiaiaoaaGreatGoShpF
import Derived.Test.YtcdjgldeiaiaoaaGreatGoRp
import Derived.Test.YtcdjgldeiaiaoaaGreatGoSo
import Derived.Test.YtcdjgldeiaiaoaaGreatGoDet
set_option linter.unusedVariables false
set_option linter.unusedSimpArgs false
namespace Go.Proofs.YtcdjgldeiaiaoaaGreat
open Go.Abs
theorem ok_vec_within:FnOk Tryz.prog 103 vec_within.c vec_within.r vec_within.n:=⟨Tryz.f103,(Tryz.f103.body).getD .skip,Tryz.func103,rfl,by kernel_rfl,by kernel_rfl,rfl⟩
theorem ok_vec_Valid:FnOk Tryz.prog 61 (vec_Valid.c 103) vec_Valid.r vec_Valid.n:=⟨Tryz.f61,(Tryz.f61.body).getD .skip,Tryz.func61,rfl,by kernel_rfl,by kernel_rfl,rfl⟩
theorem ok_mesh_Check:FnOk Tryz.prog 29 (mesh_Check.c 61) mesh_Check.r mesh_Check.n:=⟨Tryz.f29,(Tryz.f29.body).getD .skip,Tryz.func29,rfl,by kernel_rfl,by kernel_rfl,rfl⟩
theorem ok_vec_Less:FnOk Tryz.prog 123 vec_Less.c vec_Less.r vec_Less.n:=⟨Tryz.f123,(Tryz.f123.body).getD .skip,Tryz.func123,rfl,by kernel_rfl,by kernel_rfl,rfl⟩
theorem ok_weld_used_1:FnOk Tryz.prog 122 (weld_used_1.c 123) weld_used_1.r weld_used_1.n:=⟨Tryz.f122,(Tryz.f122.body).getD .skip,Tryz.func122,rfl,by kernel_rfl,by kernel_rfl,rfl⟩
theorem ok_weld_used:FnOk Tryz.prog 90 (weld_used.c 121 122) weld_used.r weld_used.n:=⟨Tryz.f90,(Tryz.f90.body).getD .skip,Tryz.func90,rfl,by kernel_rfl,by kernel_rfl,rfl⟩
theorem ok_weld_Weld:FnOk Tryz.prog 55 (weld_Weld.c 29 90) weld_Weld.r weld_Weld.n:=⟨Tryz.f55,(Tryz.f55.body).getD .skip,Tryz.func55,rfl,by kernel_rfl,by kernel_rfl,rfl⟩
theorem ok_mesh_Corners:FnOk Tryz.prog 64 (mesh_Corners.c 29) mesh_Corners.r mesh_Corners.n:=⟨Tryz.f64,(Tryz.f64.body).getD .skip,Tryz.func64,rfl,by kernel_rfl,by kernel_rfl,rfl⟩
theorem ok_vec_small:FnOk Tryz.prog 131 (vec_small.c 103) vec_small.r vec_small.n:=⟨Tryz.f131,(Tryz.f131.body).getD .skip,Tryz.func131,rfl,by kernel_rfl,by kernel_rfl,rfl⟩
theorem ok_vec_Sub:FnOk Tryz.prog 109 (vec_Sub.c 61) vec_Sub.r vec_Sub.n:=⟨Tryz.f109,(Tryz.f109.body).getD .skip,Tryz.func109,rfl,by kernel_rfl,by kernel_rfl,rfl⟩
theorem ok_vec_Collinear:FnOk Tryz.prog 65 (vec_Collinear.c 61 109 108) vec_Collinear.r vec_Collinear.n:=⟨Tryz.f65,(Tryz.f65.body).getD .skip,Tryz.func65,rfl,by kernel_rfl,by kernel_rfl,rfl⟩
theorem ok_weld_Degenerate:FnOk Tryz.prog 32 (weld_Degenerate.c 64 65) weld_Degenerate.r weld_Degenerate.n:=⟨Tryz.f32,(Tryz.f32.body).getD .skip,Tryz.func32,rfl,by kernel_rfl,by kernel_rfl,rfl⟩
theorem ok_weld_before:FnOk Tryz.prog 124 weld_before.c weld_before.r weld_before.n:=⟨Tryz.f124,(Tryz.f124.body).getD .skip,Tryz.func124,rfl,by kernel_rfl,by kernel_rfl,rfl⟩
theorem ok_weld_turned:FnOk Tryz.prog 91 (weld_turned.c 124) weld_turned.r weld_turned.n:=⟨Tryz.f91,(Tryz.f91.body).getD .skip,Tryz.func91,rfl,by kernel_rfl,by kernel_rfl,rfl⟩
theorem ok_slices_Clone_api_Vec_api_Vec:FnOk Tryz.prog 54 slices_Clone_api_Vec_api_Vec.c slices_Clone_api_Vec_api_Vec.r slices_Clone_api_Vec_api_Vec.n:=⟨Tryz.f54,(Tryz.f54.body).getD .skip,Tryz.func54,rfl,by kernel_rfl,by kernel_rfl,rfl⟩
theorem ok_slices_Clone_api_Tri_api_Tri:FnOk Tryz.prog 85 slices_Clone_api_Tri_api_Tri.c slices_Clone_api_Tri_api_Tri.r slices_Clone_api_Tri_api_Tri.n:=⟨Tryz.f85,(Tryz.f85.body).getD .skip,Tryz.func85,rfl,by kernel_rfl,by kernel_rfl,rfl⟩
theorem ok_weld_Clean:FnOk Tryz.prog 56 (weld_Clean.c 29 54 91 65) weld_Clean.r weld_Clean.n:=⟨Tryz.f56,(Tryz.f56.body).getD .skip,Tryz.func56,rfl,by kernel_rfl,by kernel_rfl,rfl⟩
theorem ok_orient_edges:FnOk Tryz.prog 92 orient_edges.c orient_edges.r orient_edges.n:=⟨Tryz.f92,(Tryz.f92.body).getD .skip,Tryz.func92,rfl,by kernel_rfl,by kernel_rfl,rfl⟩
theorem ok_orient_coherent:FnOk Tryz.prog 63 (orient_coherent.c 92) orient_coherent.r orient_coherent.n:=⟨Tryz.f63,(Tryz.f63.body).getD .skip,Tryz.func63,rfl,by kernel_rfl,by kernel_rfl,rfl⟩
theorem ok_orient_Coherent:FnOk Tryz.prog 31 (orient_Coherent.c 29 63) orient_Coherent.r orient_Coherent.n:=⟨Tryz.f31,(Tryz.f31.body).getD .skip,Tryz.func31,rfl,by kernel_rfl,by kernel_rfl,rfl⟩
theorem ok_topo_edges:FnOk Tryz.prog 100 topo_edges.c topo_edges.r topo_edges.n:=⟨Tryz.f100,(Tryz.f100.body).getD .skip,Tryz.func100,rfl,by kernel_rfl,by kernel_rfl,rfl⟩
theorem ok_topo_counted:FnOk Tryz.prog 104 (topo_counted.c 29 100) topo_counted.r topo_counted.n:=⟨Tryz.f104,(Tryz.f104.body).getD .skip,Tryz.func104,rfl,by kernel_rfl,by kernel_rfl,rfl⟩
theorem ok_topo_reverse:FnOk Tryz.prog 105 topo_reverse.c topo_reverse.r topo_reverse.n:=⟨Tryz.f105,(Tryz.f105.body).getD .skip,Tryz.func105,rfl,by kernel_rfl,by kernel_rfl,rfl⟩
theorem ok_topo_undirected:FnOk Tryz.prog 101 topo_undirected.c topo_undirected.r topo_undirected.n:=⟨Tryz.f101,(Tryz.f101.body).getD .skip,Tryz.func101,rfl,by kernel_rfl,by kernel_rfl,rfl⟩
theorem ok_cmp_isNaN_int:FnOk Tryz.prog 153 cmp_isNaN_int.c cmp_isNaN_int.r cmp_isNaN_int.n:=⟨Tryz.f153,(Tryz.f153.body).getD .skip,Tryz.func153,rfl,by kernel_rfl,by kernel_rfl,rfl⟩
theorem ok_cmp_Compare_int:FnOk Tryz.prog 130 (cmp_Compare_int.c 153) cmp_Compare_int.r cmp_Compare_int.n:=⟨Tryz.f130,(Tryz.f130.body).getD .skip,Tryz.func130,rfl,by kernel_rfl,by kernel_rfl,rfl⟩
theorem ok_cmp_Or_int:FnOk Tryz.prog 129 cmp_Or_int.c cmp_Or_int.r cmp_Or_int.n:=⟨Tryz.f129,(Tryz.f129.body).getD .skip,Tryz.func129,rfl,by kernel_rfl,by kernel_rfl,rfl⟩
theorem ok_topo_order:FnOk Tryz.prog 107 (topo_order.c 130 129) topo_order.r topo_order.n:=⟨Tryz.f107,(Tryz.f107.body).getD .skip,Tryz.func107,rfl,by kernel_rfl,by kernel_rfl,rfl⟩
theorem ok_topo_Boundary:FnOk Tryz.prog 62 (topo_Boundary.c 104 105 106 107) topo_Boundary.r topo_Boundary.n:=⟨Tryz.f62,(Tryz.f62.body).getD .skip,Tryz.func62,rfl,by kernel_rfl,by kernel_rfl,rfl⟩
theorem ok_topo_Closed:FnOk Tryz.prog 30 (topo_Closed.c 29 62) topo_Closed.r topo_Closed.n:=⟨Tryz.f30,(Tryz.f30.body).getD .skip,Tryz.func30,rfl,by kernel_rfl,by kernel_rfl,rfl⟩
theorem ok_topo_Shells:FnOk Tryz.prog 60 (topo_Shells.c 29 100 101 102) topo_Shells.r topo_Shells.n:=⟨Tryz.f60,(Tryz.f60.body).getD .skip,Tryz.func60,rfl,by kernel_rfl,by kernel_rfl,rfl⟩
theorem ok_vec_Det:FnOk Tryz.prog 110 (vec_Det.c 131 108 132) vec_Det.r vec_Det.n:=⟨Tryz.f110,(Tryz.f110.body).getD .skip,Tryz.func110,rfl,by kernel_rfl,by kernel_rfl,rfl⟩
theorem ok_mesh_Volume6:FnOk Tryz.prog 66 (mesh_Volume6.c 29 110) mesh_Volume6.r mesh_Volume6.n:=⟨Tryz.f66,(Tryz.f66.body).getD .skip,Tryz.func66,rfl,by kernel_rfl,by kernel_rfl,rfl⟩
theorem ok_orient_reversed:FnOk Tryz.prog 96 orient_reversed.c orient_reversed.r orient_reversed.n:=⟨Tryz.f96,(Tryz.f96.body).getD .skip,Tryz.func96,rfl,by kernel_rfl,by kernel_rfl,rfl⟩
theorem ok_orient_Outward:FnOk Tryz.prog 59 (orient_Outward.c 29 30 63 54 85 60 66 96) orient_Outward.r orient_Outward.n:=⟨Tryz.f59,(Tryz.f59.body).getD .skip,Tryz.func59,rfl,by kernel_rfl,by kernel_rfl,rfl⟩
theorem ok_orient_both:FnOk Tryz.prog 93 orient_both.c orient_both.r orient_both.n:=⟨Tryz.f93,(Tryz.f93.body).getD .skip,Tryz.func93,rfl,by kernel_rfl,by kernel_rfl,rfl⟩
theorem ok_slices_Index_api_Edge_api_Edge:FnOk Tryz.prog 125 slices_Index_api_Edge_api_Edge.c slices_Index_api_Edge_api_Edge.r slices_Index_api_Edge_api_Edge.n:=⟨Tryz.f125,(Tryz.f125.body).getD .skip,Tryz.func125,rfl,by kernel_rfl,by kernel_rfl,rfl⟩
theorem ok_slices_Contains_api_Edge_api_Edge:FnOk Tryz.prog 95 (slices_Contains_api_Edge_api_Edge.c 125) slices_Contains_api_Edge_api_Edge.r slices_Contains_api_Edge_api_Edge.n:=⟨Tryz.f95,(Tryz.f95.body).getD .skip,Tryz.func95,rfl,by kernel_rfl,by kernel_rfl,rfl⟩
theorem ok_orient_Orient_1:FnOk Tryz.prog 94 (orient_Orient_1.c 92 95 96) orient_Orient_1.r orient_Orient_1.n:=⟨Tryz.f94,(Tryz.f94.body).getD .skip,Tryz.func94,rfl,by kernel_rfl,by kernel_rfl,rfl⟩
theorem ok_orient_Orient:FnOk Tryz.prog 57 (orient_Orient.c 29 85 92 93 94 63 54) orient_Orient.r orient_Orient.n:=⟨Tryz.f57,(Tryz.f57.body).getD .skip,Tryz.func57,rfl,by kernel_rfl,by kernel_rfl,rfl⟩
theorem ok_holes_Fan:FnOk Tryz.prog 99 holes_Fan.c holes_Fan.r holes_Fan.n:=⟨Tryz.f99,(Tryz.f99.body).getD .skip,Tryz.func99,rfl,by kernel_rfl,by kernel_rfl,rfl⟩
theorem ok_topo_Loops:FnOk Tryz.prog 97 (topo_Loops.c 29 104 62 105) topo_Loops.r topo_Loops.n:=⟨Tryz.f97,(Tryz.f97.body).getD .skip,Tryz.func97,rfl,by kernel_rfl,by kernel_rfl,rfl⟩
theorem ok_holes_extend:FnOk Tryz.prog 98 holes_extend.c holes_extend.r holes_extend.n:=⟨Tryz.f98,(Tryz.f98.body).getD .skip,Tryz.func98,rfl,by kernel_rfl,by kernel_rfl,rfl⟩
theorem ok_holes_Fill:FnOk Tryz.prog 58 (holes_Fill.c 29 97 54 85 99 98) holes_Fill.r holes_Fill.n:=⟨Tryz.f58,(Tryz.f58.body).getD .skip,Tryz.func58,rfl,by kernel_rfl,by kernel_rfl,rfl⟩
theorem ok_repair_inverted:FnOk Tryz.prog 33 (repair_inverted.c 60 66) repair_inverted.r repair_inverted.n:=⟨Tryz.f33,(Tryz.f33.body).getD .skip,Tryz.func33,rfl,by kernel_rfl,by kernel_rfl,rfl⟩
theorem ok_repair_Check:FnOk Tryz.prog 12 (repair_Check.c 29 30 31 32 33) repair_Check.r repair_Check.n:=⟨Tryz.f12,(Tryz.f12.body).getD .skip,Tryz.func12,rfl,by kernel_rfl,by kernel_rfl,rfl⟩
theorem ok_repair_job_weld:FnOk Tryz.prog 23 (repair_job_weld.c 55) repair_job_weld.r repair_job_weld.n:=⟨Tryz.f23,(Tryz.f23.body).getD .skip,Tryz.func23,rfl,by kernel_rfl,by kernel_rfl,rfl⟩
theorem ok_repair_job_clean:FnOk Tryz.prog 24 (repair_job_clean.c 56) repair_job_clean.r repair_job_clean.n:=⟨Tryz.f24,(Tryz.f24.body).getD .skip,Tryz.func24,rfl,by kernel_rfl,by kernel_rfl,rfl⟩
theorem ok_repair_job_orient:FnOk Tryz.prog 25 (repair_job_orient.c 57) repair_job_orient.r repair_job_orient.n:=⟨Tryz.f25,(Tryz.f25.body).getD .skip,Tryz.func25,rfl,by kernel_rfl,by kernel_rfl,rfl⟩
theorem ok_repair_job_fill:FnOk Tryz.prog 26 (repair_job_fill.c 58) repair_job_fill.r repair_job_fill.n:=⟨Tryz.f26,(Tryz.f26.body).getD .skip,Tryz.func26,rfl,by kernel_rfl,by kernel_rfl,rfl⟩
theorem ok_repair_job_outward:FnOk Tryz.prog 27 (repair_job_outward.c 59) repair_job_outward.r repair_job_outward.n:=⟨Tryz.f27,(Tryz.f27.body).getD .skip,Tryz.func27,rfl,by kernel_rfl,by kernel_rfl,rfl⟩
theorem ok_repair_job_check:FnOk Tryz.prog 28 (repair_job_check.c 60 12) repair_job_check.r repair_job_check.n:=⟨Tryz.f28,(Tryz.f28.body).getD .skip,Tryz.func28,rfl,by kernel_rfl,by kernel_rfl,rfl⟩
theorem ok_repair_Repair:FnOk Tryz.prog 11 (repair_Repair.c 23 24 25 26 27 28) repair_Repair.r repair_Repair.n:=⟨Tryz.f11,(Tryz.f11.body).getD .skip,Tryz.func11,rfl,by kernel_rfl,by kernel_rfl,rfl⟩
theorem ok_law14_few:FnOk Tryz.prog 9 law14_few.c law14_few.r law14_few.n:=⟨Tryz.f9,(Tryz.f9.body).getD .skip,Tryz.func9,rfl,by kernel_rfl,by kernel_rfl,rfl⟩
theorem ok_law14_works:FnOk Tryz.prog 10 (law14_works.c 11 12) law14_works.r law14_works.n:=⟨Tryz.f10,(Tryz.f10.body).getD .skip,Tryz.func10,rfl,by kernel_rfl,by kernel_rfl,rfl⟩
theorem ok_shapes_fits:FnOk Tryz.prog 52 (shapes_fits.c 61) shapes_fits.r shapes_fits.n:=⟨Tryz.f52,(Tryz.f52.body).getD .skip,Tryz.func52,rfl,by kernel_rfl,by kernel_rfl,rfl⟩
theorem ok_shapes_near:FnOk Tryz.prog 44 shapes_near.c shapes_near.r shapes_near.n:=⟨Tryz.f44,(Tryz.f44.body).getD .skip,Tryz.func44,rfl,by kernel_rfl,by kernel_rfl,rfl⟩
theorem ok_shapes_plus:FnOk Tryz.prog 48 shapes_plus.c shapes_plus.r shapes_plus.n:=⟨Tryz.f48,(Tryz.f48.body).getD .skip,Tryz.func48,rfl,by kernel_rfl,by kernel_rfl,rfl⟩
theorem ok_shapes_checked:FnOk Tryz.prog 45 (shapes_checked.c 52) shapes_checked.r shapes_checked.n:=⟨Tryz.f45,(Tryz.f45.body).getD .skip,Tryz.func45,rfl,by kernel_rfl,by kernel_rfl,rfl⟩
theorem ok_shapes_Move:FnOk Tryz.prog 17 (shapes_Move.c 29 44 47 46 45) shapes_Move.r shapes_Move.n:=⟨Tryz.f17,(Tryz.f17.body).getD .skip,Tryz.func17,rfl,by kernel_rfl,by kernel_rfl,rfl⟩
theorem ok_vec_Cross:FnOk Tryz.prog 108 (vec_Cross.c 131) vec_Cross.r vec_Cross.n:=⟨Tryz.f108,(Tryz.f108.body).getD .skip,Tryz.func108,rfl,by kernel_rfl,by kernel_rfl,rfl⟩
theorem ok_vec_Dot:FnOk Tryz.prog 132 (vec_Dot.c 131 103) vec_Dot.r vec_Dot.n:=⟨Tryz.f132,(Tryz.f132.body).getD .skip,Tryz.func132,rfl,by kernel_rfl,by kernel_rfl,rfl⟩
theorem ok_shapes_change:FnOk Tryz.prog 46 (shapes_change.c 54 85) shapes_change.r shapes_change.n:=⟨Tryz.f46,(Tryz.f46.body).getD .skip,Tryz.func46,rfl,by kernel_rfl,by kernel_rfl,rfl⟩
theorem ok_shapes_Move_1:FnOk Tryz.prog 47 (shapes_Move_1.c 48) shapes_Move_1.r shapes_Move_1.n:=⟨Tryz.f47,(Tryz.f47.body).getD .skip,Tryz.func47,rfl,by kernel_rfl,by kernel_rfl,rfl⟩
theorem ok_law14_RepairMoves:FnOk Tryz.prog 6 (law14_RepairMoves.c 9 10 17 12) law14_RepairMoves.r law14_RepairMoves.n:=⟨Tryz.f6,(Tryz.f6.body).getD .skip,Tryz.func6,rfl,by kernel_rfl,by kernel_rfl,rfl⟩
end Go.Proofs.YtcdjgldeiaiaoaaGreat
