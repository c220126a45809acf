/- The program's functions are those whose code the library's texts hold. -/
import Derived.Test.YtcdjgldeiaiaoaaGreatRows
import Derived.Test.YtcdjgldeiaiaoaaGreatGoHr
import Derived.Test.YtcdjgldeiaiaoaaGreatGoClone
import Derived.Test.YtcdjgldeiaiaoaaGreatGoToB
import Derived.Test.YtcdjgldeiaiaoaaGreatGoLpB
import Derived.Test.YtcdjgldeiaiaoaaGreatGoQd
import Derived.Test.YtcdjgldeiaiaoaaGreatGoTr
import Derived.Test.YtcdjgldeiaiaoaaGreatGoRevC
import Derived.Test.YtcdjgldeiaiaoaaGreatGoOriA
import Derived.Test.YtcdjgldeiaiaoaaGreatGoTal
import Derived.Test.YtcdjgldeiaiaoaaGreatGoOriD
import Derived.Test.YtcdjgldeiaiaoaaGreatGoOz
import Derived.Test.YtcdjgldeiaiaoaaGreatGoQe
import Derived.Test.YtcdjgldeiaiaoaaGreatGoQi
import Derived.Test.YtcdjgldeiaiaoaaGreatGoRpE
import Derived.Test.YtcdjgldeiaiaoaaGreatGoWeA
import Derived.Test.YtcdjgldeiaiaoaaGreatGoRb
import Derived.Test.YtcdjgldeiaiaoaaGreatGoSo
import Derived.Test.YtcdjgldeiaiaoaaGreatGoDet
import Derived.Test.YtcdjgldeiaiaoaaGreatGoTpE
import Derived.Test.YtcdjgldeiaiaoaaGreatGoWeG
import Derived.Test.YtcdjgldeiaiaoaaGreatGoWeC
set_option linter.unusedVariables false
set_option linter.unusedSimpArgs false
namespace Go.Proofs.YtcdjgldeiaiaoaaGreat
open Go.Abs
theorem ok_vec_within:Q9 Tryz.prog 103 vec_within.c vec_within.r vec_within.n:=⟨Tryz.f103,(Tryz.f103.body).getD .skip,Tryz.func103,rfl,by kernel_rfl,by kernel_rfl,rfl⟩
theorem ok_ref04_within:Q9 Tryz.prog 86 ref04_within.c ref04_within.r ref04_within.n:=⟨Tryz.f86,(Tryz.f86.body).getD .skip,Tryz.func86,rfl,by kernel_rfl,by kernel_rfl,rfl⟩
theorem ok_vec_Valid:Q9 Tryz.prog 61 (vec_Valid.c 103) vec_Valid.r vec_Valid.n:=⟨Tryz.f61,(Tryz.f61.body).getD .skip,Tryz.func61,rfl,by kernel_rfl,by kernel_rfl,rfl⟩
theorem ok_ref04_Valid:Q9 Tryz.prog 49 (ref04_Valid.c 86) ref04_Valid.r ref04_Valid.n:=⟨Tryz.f49,(Tryz.f49.body).getD .skip,Tryz.func49,rfl,by kernel_rfl,by kernel_rfl,rfl⟩
theorem ok_mesh_Check:Q9 Tryz.prog 29 (mesh_Check.c 61) mesh_Check.r mesh_Check.n:=⟨Tryz.f29,(Tryz.f29.body).getD .skip,Tryz.func29,rfl,by kernel_rfl,by kernel_rfl,rfl⟩
theorem ok_ref07_Check:Q9 Tryz.prog 18 (ref07_Check.c 49) ref07_Check.r ref07_Check.n:=⟨Tryz.f18,(Tryz.f18.body).getD .skip,Tryz.func18,rfl,by kernel_rfl,by kernel_rfl,rfl⟩
theorem ok_vec_Less:Q9 Tryz.prog 123 vec_Less.c vec_Less.r vec_Less.n:=⟨Tryz.f123,(Tryz.f123.body).getD .skip,Tryz.func123,rfl,by kernel_rfl,by kernel_rfl,rfl⟩
theorem ok_ref04_Less:Q9 Tryz.prog 117 ref04_Less.c ref04_Less.r ref04_Less.n:=⟨Tryz.f117,(Tryz.f117.body).getD .skip,Tryz.func117,rfl,by kernel_rfl,by kernel_rfl,rfl⟩
theorem ok_weld_used_1:Q9 Tryz.prog 122 (weld_used_1.c 123) weld_used_1.r weld_used_1.n:=⟨Tryz.f122,(Tryz.f122.body).getD .skip,Tryz.func122,rfl,by kernel_rfl,by kernel_rfl,rfl⟩
theorem ok_weld_used:Q9 Tryz.prog 90 (weld_used.c 121 122) weld_used.r weld_used.n:=⟨Tryz.f90,(Tryz.f90.body).getD .skip,Tryz.func90,rfl,by kernel_rfl,by kernel_rfl,rfl⟩
theorem ok_weld_Weld:Q9 Tryz.prog 55 (weld_Weld.c 29 90) weld_Weld.r weld_Weld.n:=⟨Tryz.f55,(Tryz.f55.body).getD .skip,Tryz.func55,rfl,by kernel_rfl,by kernel_rfl,rfl⟩
theorem ok_ref09_find:Q9 Tryz.prog 76 ref09_find.c ref09_find.r ref09_find.n:=⟨Tryz.f76,(Tryz.f76.body).getD .skip,Tryz.func76,rfl,by kernel_rfl,by kernel_rfl,rfl⟩
theorem ok_ref09_used:Q9 Tryz.prog 77 ref09_used.c ref09_used.r ref09_used.n:=⟨Tryz.f77,(Tryz.f77.body).getD .skip,Tryz.func77,rfl,by kernel_rfl,by kernel_rfl,rfl⟩
theorem ok_ref09_insert:Q9 Tryz.prog 78 (ref09_insert.c 117) ref09_insert.r ref09_insert.n:=⟨Tryz.f78,(Tryz.f78.body).getD .skip,Tryz.func78,rfl,by kernel_rfl,by kernel_rfl,rfl⟩
theorem ok_ref09_Weld:Q9 Tryz.prog 39 (ref09_Weld.c 18 76 77 78) ref09_Weld.r ref09_Weld.n:=⟨Tryz.f39,(Tryz.f39.body).getD .skip,Tryz.func39,rfl,by kernel_rfl,by kernel_rfl,rfl⟩
theorem ok_mesh_Corners:Q9 Tryz.prog 64 (mesh_Corners.c 29) mesh_Corners.r mesh_Corners.n:=⟨Tryz.f64,(Tryz.f64.body).getD .skip,Tryz.func64,rfl,by kernel_rfl,by kernel_rfl,rfl⟩
theorem ok_ref07_Corners:Q9 Tryz.prog 74 (ref07_Corners.c 18) ref07_Corners.r ref07_Corners.n:=⟨Tryz.f74,(Tryz.f74.body).getD .skip,Tryz.func74,rfl,by kernel_rfl,by kernel_rfl,rfl⟩
theorem ok_vec_small:Q9 Tryz.prog 131 (vec_small.c 103) vec_small.r vec_small.n:=⟨Tryz.f131,(Tryz.f131.body).getD .skip,Tryz.func131,rfl,by kernel_rfl,by kernel_rfl,rfl⟩
theorem Us:Q9 Tryz.prog 87 (ref04_small.c 86) ref04_small.r ref04_small.n:=⟨Tryz.f87,(Tryz.f87.body).getD .skip,Tryz.func87,rfl,by kernel_rfl,by kernel_rfl,rfl⟩
theorem ok_vec_Sub:Q9 Tryz.prog 109 (vec_Sub.c 61) vec_Sub.r vec_Sub.n:=⟨Tryz.f109,(Tryz.f109.body).getD .skip,Tryz.func109,rfl,by kernel_rfl,by kernel_rfl,rfl⟩
theorem ok_ref04_Sub:Q9 Tryz.prog 116 (ref04_Sub.c 49) ref04_Sub.r ref04_Sub.n:=⟨Tryz.f116,(Tryz.f116.body).getD .skip,Tryz.func116,rfl,by kernel_rfl,by kernel_rfl,rfl⟩
theorem ok_vec_Collinear:Q9 Tryz.prog 65 (vec_Collinear.c 61 109 108) vec_Collinear.r vec_Collinear.n:=⟨Tryz.f65,(Tryz.f65.body).getD .skip,Tryz.func65,rfl,by kernel_rfl,by kernel_rfl,rfl⟩
theorem Iy:Q9 Tryz.prog 75 (ref04_Collinear.c 49 116 89) ref04_Collinear.r ref04_Collinear.n:=⟨Tryz.f75,(Tryz.f75.body).getD .skip,Tryz.func75,rfl,by kernel_rfl,by kernel_rfl,rfl⟩
theorem Ir:Q9 Tryz.prog 32 (weld_Degenerate.c 64 65) weld_Degenerate.r weld_Degenerate.n:=⟨Tryz.f32,(Tryz.f32.body).getD .skip,Tryz.func32,rfl,by kernel_rfl,by kernel_rfl,rfl⟩
theorem I7:Q9 Tryz.prog 37 (ref09_Degenerate.c 74 75) ref09_Degenerate.r ref09_Degenerate.n:=⟨Tryz.f37,(Tryz.f37.body).getD .skip,Tryz.func37,rfl,by kernel_rfl,by kernel_rfl,rfl⟩
theorem ok_ref09_Twins:Q9 Tryz.prog 79 ref09_Twins.c ref09_Twins.r ref09_Twins.n:=⟨Tryz.f79,(Tryz.f79.body).getD .skip,Tryz.func79,rfl,by kernel_rfl,by kernel_rfl,rfl⟩
theorem ok_weld_before:Q9 Tryz.prog 124 weld_before.c weld_before.r weld_before.n:=⟨Tryz.f124,(Tryz.f124.body).getD .skip,Tryz.func124,rfl,by kernel_rfl,by kernel_rfl,rfl⟩
theorem ok_weld_turned:Q9 Tryz.prog 91 (weld_turned.c 124) weld_turned.r weld_turned.n:=⟨Tryz.f91,(Tryz.f91.body).getD .skip,Tryz.func91,rfl,by kernel_rfl,by kernel_rfl,rfl⟩
theorem Xu:Q9 Tryz.prog 54 slices_Clone_api_Vec_api_Vec.c slices_Clone_api_Vec_api_Vec.r slices_Clone_api_Vec_api_Vec.n:=⟨Tryz.f54,(Tryz.f54.body).getD .skip,Tryz.func54,rfl,by kernel_rfl,by kernel_rfl,rfl⟩
theorem Xv:Q9 Tryz.prog 85 slices_Clone_api_Tri_api_Tri.c slices_Clone_api_Tri_api_Tri.r slices_Clone_api_Tri_api_Tri.n:=⟨Tryz.f85,(Tryz.f85.body).getD .skip,Tryz.func85,rfl,by kernel_rfl,by kernel_rfl,rfl⟩
theorem ok_weld_Clean:Q9 Tryz.prog 56 (weld_Clean.c 29 54 91 65) weld_Clean.r weld_Clean.n:=⟨Tryz.f56,(Tryz.f56.body).getD .skip,Tryz.func56,rfl,by kernel_rfl,by kernel_rfl,rfl⟩
theorem ok_ref09_Clean:Q9 Tryz.prog 40 (ref09_Clean.c 18 37 79) ref09_Clean.r ref09_Clean.n:=⟨Tryz.f40,(Tryz.f40.body).getD .skip,Tryz.func40,rfl,by kernel_rfl,by kernel_rfl,rfl⟩
theorem ok_orient_edges:Q9 Tryz.prog 92 orient_edges.c orient_edges.r orient_edges.n:=⟨Tryz.f92,(Tryz.f92.body).getD .skip,Tryz.func92,rfl,by kernel_rfl,by kernel_rfl,rfl⟩
theorem B0:Q9 Tryz.prog 63 (orient_coherent.c 92) orient_coherent.r orient_coherent.n:=⟨Tryz.f63,(Tryz.f63.body).getD .skip,Tryz.func63,rfl,by kernel_rfl,by kernel_rfl,rfl⟩
theorem ok_ref11_uses:Q9 Tryz.prog 115 ref11_uses.c ref11_uses.r ref11_uses.n:=⟨Tryz.f115,(Tryz.f115.body).getD .skip,Tryz.func115,rfl,by kernel_rfl,by kernel_rfl,rfl⟩
theorem ok_ref11_coherent:Q9 Tryz.prog 73 (ref11_coherent.c 115) ref11_coherent.r ref11_coherent.n:=⟨Tryz.f73,(Tryz.f73.body).getD .skip,Tryz.func73,rfl,by kernel_rfl,by kernel_rfl,rfl⟩
theorem B3:Q9 Tryz.prog 31 (orient_Coherent.c 29 63) orient_Coherent.r orient_Coherent.n:=⟨Tryz.f31,(Tryz.f31.body).getD .skip,Tryz.func31,rfl,by kernel_rfl,by kernel_rfl,rfl⟩
theorem ok_ref11_Coherent:Q9 Tryz.prog 36 (ref11_Coherent.c 18 73) ref11_Coherent.r ref11_Coherent.n:=⟨Tryz.f36,(Tryz.f36.body).getD .skip,Tryz.func36,rfl,by kernel_rfl,by kernel_rfl,rfl⟩
theorem ok_topo_edges:Q9 Tryz.prog 100 topo_edges.c topo_edges.r topo_edges.n:=⟨Tryz.f100,(Tryz.f100.body).getD .skip,Tryz.func100,rfl,by kernel_rfl,by kernel_rfl,rfl⟩
theorem ok_topo_counted:Q9 Tryz.prog 104 (topo_counted.c 29 100) topo_counted.r topo_counted.n:=⟨Tryz.f104,(Tryz.f104.body).getD .skip,Tryz.func104,rfl,by kernel_rfl,by kernel_rfl,rfl⟩
theorem ok_topo_reverse:Q9 Tryz.prog 105 topo_reverse.c topo_reverse.r topo_reverse.n:=⟨Tryz.f105,(Tryz.f105.body).getD .skip,Tryz.func105,rfl,by kernel_rfl,by kernel_rfl,rfl⟩
theorem Iu:Q9 Tryz.prog 101 topo_undirected.c topo_undirected.r topo_undirected.n:=⟨Tryz.f101,(Tryz.f101.body).getD .skip,Tryz.func101,rfl,by kernel_rfl,by kernel_rfl,rfl⟩
theorem ok_cmp_isNaN_int:Q9 Tryz.prog 153 cmp_isNaN_int.c cmp_isNaN_int.r cmp_isNaN_int.n:=⟨Tryz.f153,(Tryz.f153.body).getD .skip,Tryz.func153,rfl,by kernel_rfl,by kernel_rfl,rfl⟩
theorem B4:Q9 Tryz.prog 130 (cmp_Compare_int.c 153) cmp_Compare_int.r cmp_Compare_int.n:=⟨Tryz.f130,(Tryz.f130.body).getD .skip,Tryz.func130,rfl,by kernel_rfl,by kernel_rfl,rfl⟩
theorem ok_cmp_Or_int:Q9 Tryz.prog 129 cmp_Or_int.c cmp_Or_int.r cmp_Or_int.n:=⟨Tryz.f129,(Tryz.f129.body).getD .skip,Tryz.func129,rfl,by kernel_rfl,by kernel_rfl,rfl⟩
theorem ok_topo_order:Q9 Tryz.prog 107 (topo_order.c 130 129) topo_order.r topo_order.n:=⟨Tryz.f107,(Tryz.f107.body).getD .skip,Tryz.func107,rfl,by kernel_rfl,by kernel_rfl,rfl⟩
theorem ok_topo_Boundary:Q9 Tryz.prog 62 (topo_Boundary.c 104 105 106 107) topo_Boundary.r topo_Boundary.n:=⟨Tryz.f62,(Tryz.f62.body).getD .skip,Tryz.func62,rfl,by kernel_rfl,by kernel_rfl,rfl⟩
theorem ok_topo_Closed:Q9 Tryz.prog 30 (topo_Closed.c 29 62) topo_Closed.r topo_Closed.n:=⟨Tryz.f30,(Tryz.f30.body).getD .skip,Tryz.func30,rfl,by kernel_rfl,by kernel_rfl,rfl⟩
theorem ok_topo_Shells:Q9 Tryz.prog 60 (topo_Shells.c 29 100 101 102) topo_Shells.r topo_Shells.n:=⟨Tryz.f60,(Tryz.f60.body).getD .skip,Tryz.func60,rfl,by kernel_rfl,by kernel_rfl,rfl⟩
theorem ok_ref10_before:Q9 Tryz.prog 112 ref10_before.c ref10_before.r ref10_before.n:=⟨Tryz.f112,(Tryz.f112.body).getD .skip,Tryz.func112,rfl,by kernel_rfl,by kernel_rfl,rfl⟩
theorem ok_ref10_place:Q9 Tryz.prog 69 (ref10_place.c 112) ref10_place.r ref10_place.n:=⟨Tryz.f69,(Tryz.f69.body).getD .skip,Tryz.func69,rfl,by kernel_rfl,by kernel_rfl,rfl⟩
theorem ok_ref10_number:Q9 Tryz.prog 71 (ref10_number.c 69) ref10_number.r ref10_number.n:=⟨Tryz.f71,(Tryz.f71.body).getD .skip,Tryz.func71,rfl,by kernel_rfl,by kernel_rfl,rfl⟩
theorem ok_ref10_with:Q9 Tryz.prog 111 (ref10_with.c 69) ref10_with.r ref10_with.n:=⟨Tryz.f111,(Tryz.f111.body).getD .skip,Tryz.func111,rfl,by kernel_rfl,by kernel_rfl,rfl⟩
theorem ok_ref10_Directed:Q9 Tryz.prog 68 ref10_Directed.c ref10_Directed.r ref10_Directed.n:=⟨Tryz.f68,(Tryz.f68.body).getD .skip,Tryz.func68,rfl,by kernel_rfl,by kernel_rfl,rfl⟩
theorem ok_ref10_counts:Q9 Tryz.prog 113 (ref10_counts.c 68 111 69) ref10_counts.r ref10_counts.n:=⟨Tryz.f113,(Tryz.f113.body).getD .skip,Tryz.func113,rfl,by kernel_rfl,by kernel_rfl,rfl⟩
theorem I6:Q9 Tryz.prog 70 ref10_Undirected.c ref10_Undirected.r ref10_Undirected.n:=⟨Tryz.f70,(Tryz.f70.body).getD .skip,Tryz.func70,rfl,by kernel_rfl,by kernel_rfl,rfl⟩
theorem I5:Q9 Tryz.prog 67 (ref10_undirected.c 68 70 111) ref10_undirected.r ref10_undirected.n:=⟨Tryz.f67,(Tryz.f67.body).getD .skip,Tryz.func67,rfl,by kernel_rfl,by kernel_rfl,rfl⟩
theorem ok_ref10_reverse:Q9 Tryz.prog 114 ref10_reverse.c ref10_reverse.r ref10_reverse.n:=⟨Tryz.f114,(Tryz.f114.body).getD .skip,Tryz.func114,rfl,by kernel_rfl,by kernel_rfl,rfl⟩
theorem ok_ref10_Boundary:Q9 Tryz.prog 72 (ref10_Boundary.c 18 113 114 71) ref10_Boundary.r ref10_Boundary.n:=⟨Tryz.f72,(Tryz.f72.body).getD .skip,Tryz.func72,rfl,by kernel_rfl,by kernel_rfl,rfl⟩
theorem ok_ref10_Closed:Q9 Tryz.prog 35 (ref10_Closed.c 18 72) ref10_Closed.r ref10_Closed.n:=⟨Tryz.f35,(Tryz.f35.body).getD .skip,Tryz.func35,rfl,by kernel_rfl,by kernel_rfl,rfl⟩
theorem ok_ref10_spread:Q9 Tryz.prog 34 (ref10_spread.c 67 68 70 69 71) ref10_spread.r ref10_spread.n:=⟨Tryz.f34,(Tryz.f34.body).getD .skip,Tryz.func34,rfl,by kernel_rfl,by kernel_rfl,rfl⟩
theorem ok_ref10_Shells:Q9 Tryz.prog 14 (ref10_Shells.c 18 34) ref10_Shells.r ref10_Shells.n:=⟨Tryz.f14,(Tryz.f14.body).getD .skip,Tryz.func14,rfl,by kernel_rfl,by kernel_rfl,rfl⟩
theorem ok_vec_Det:Q9 Tryz.prog 110 (vec_Det.c 131 108 132) vec_Det.r vec_Det.n:=⟨Tryz.f110,(Tryz.f110.body).getD .skip,Tryz.func110,rfl,by kernel_rfl,by kernel_rfl,rfl⟩
theorem ok_mesh_Volume6:Q9 Tryz.prog 66 (mesh_Volume6.c 29 110) mesh_Volume6.r mesh_Volume6.n:=⟨Tryz.f66,(Tryz.f66.body).getD .skip,Tryz.func66,rfl,by kernel_rfl,by kernel_rfl,rfl⟩
theorem ok_ref04_Det:Q9 Tryz.prog 51 (ref04_Det.c 87 89 88) ref04_Det.r ref04_Det.n:=⟨Tryz.f51,(Tryz.f51.body).getD .skip,Tryz.func51,rfl,by kernel_rfl,by kernel_rfl,rfl⟩
theorem ok_ref07_Volume6:Q9 Tryz.prog 21 (ref07_Volume6.c 18 51) ref07_Volume6.r ref07_Volume6.n:=⟨Tryz.f21,(Tryz.f21.body).getD .skip,Tryz.func21,rfl,by kernel_rfl,by kernel_rfl,rfl⟩
theorem ok_ref07_Same:Q9 Tryz.prog 13 ref07_Same.c ref07_Same.r ref07_Same.n:=⟨Tryz.f13,(Tryz.f13.body).getD .skip,Tryz.func13,rfl,by kernel_rfl,by kernel_rfl,rfl⟩
theorem Iz:Q9 Tryz.prog 96 orient_reversed.c orient_reversed.r orient_reversed.n:=⟨Tryz.f96,(Tryz.f96.body).getD .skip,Tryz.func96,rfl,by kernel_rfl,by kernel_rfl,rfl⟩
theorem ok_ref11_Reversed:Q9 Tryz.prog 84 ref11_Reversed.c ref11_Reversed.r ref11_Reversed.n:=⟨Tryz.f84,(Tryz.f84.body).getD .skip,Tryz.func84,rfl,by kernel_rfl,by kernel_rfl,rfl⟩
theorem ok_orient_Outward:Q9 Tryz.prog 59 (orient_Outward.c 29 30 63 54 85 60 66 96) orient_Outward.r orient_Outward.n:=⟨Tryz.f59,(Tryz.f59.body).getD .skip,Tryz.func59,rfl,by kernel_rfl,by kernel_rfl,rfl⟩
theorem ok_ref11_part:Q9 Tryz.prog 83 ref11_part.c ref11_part.r ref11_part.n:=⟨Tryz.f83,(Tryz.f83.body).getD .skip,Tryz.func83,rfl,by kernel_rfl,by kernel_rfl,rfl⟩
theorem ok_ref11_Outward:Q9 Tryz.prog 43 (ref11_Outward.c 18 35 73 14 83 21 84) ref11_Outward.r ref11_Outward.n:=⟨Tryz.f43,(Tryz.f43.body).getD .skip,Tryz.func43,rfl,by kernel_rfl,by kernel_rfl,rfl⟩
theorem ok_orient_both:Q9 Tryz.prog 93 orient_both.c orient_both.r orient_both.n:=⟨Tryz.f93,(Tryz.f93.body).getD .skip,Tryz.func93,rfl,by kernel_rfl,by kernel_rfl,rfl⟩
theorem Xg:Q9 Tryz.prog 125 slices_Index_api_Edge_api_Edge.c slices_Index_api_Edge_api_Edge.r slices_Index_api_Edge_api_Edge.n:=⟨Tryz.f125,(Tryz.f125.body).getD .skip,Tryz.func125,rfl,by kernel_rfl,by kernel_rfl,rfl⟩
theorem Yu:Q9 Tryz.prog 95 (slices_Contains_api_Edge_api_Edge.c 125) slices_Contains_api_Edge_api_Edge.r slices_Contains_api_Edge_api_Edge.n:=⟨Tryz.f95,(Tryz.f95.body).getD .skip,Tryz.func95,rfl,by kernel_rfl,by kernel_rfl,rfl⟩
theorem B1:Q9 Tryz.prog 94 (orient_Orient_1.c 92 95 96) orient_Orient_1.r orient_Orient_1.n:=⟨Tryz.f94,(Tryz.f94.body).getD .skip,Tryz.func94,rfl,by kernel_rfl,by kernel_rfl,rfl⟩
theorem ok_orient_Orient:Q9 Tryz.prog 57 (orient_Orient.c 29 85 92 93 94 63 54) orient_Orient.r orient_Orient.n:=⟨Tryz.f57,(Tryz.f57.body).getD .skip,Tryz.func57,rfl,by kernel_rfl,by kernel_rfl,rfl⟩
theorem ok_ref11_common:Q9 Tryz.prog 118 (ref11_common.c 115) ref11_common.r ref11_common.n:=⟨Tryz.f118,(Tryz.f118.body).getD .skip,Tryz.func118,rfl,by kernel_rfl,by kernel_rfl,rfl⟩
theorem ok_ref11_spread:Q9 Tryz.prog 80 (ref11_spread.c 118 84) ref11_spread.r ref11_spread.n:=⟨Tryz.f80,(Tryz.f80.body).getD .skip,Tryz.func80,rfl,by kernel_rfl,by kernel_rfl,rfl⟩
theorem ok_ref11_Orient:Q9 Tryz.prog 41 (ref11_Orient.c 18 14 80 73) ref11_Orient.r ref11_Orient.n:=⟨Tryz.f41,(Tryz.f41.body).getD .skip,Tryz.func41,rfl,by kernel_rfl,by kernel_rfl,rfl⟩
theorem ok_holes_Fan:Q9 Tryz.prog 99 holes_Fan.c holes_Fan.r holes_Fan.n:=⟨Tryz.f99,(Tryz.f99.body).getD .skip,Tryz.func99,rfl,by kernel_rfl,by kernel_rfl,rfl⟩
theorem ok_ref12_Fan:Q9 Tryz.prog 82 ref12_Fan.c ref12_Fan.r ref12_Fan.n:=⟨Tryz.f82,(Tryz.f82.body).getD .skip,Tryz.func82,rfl,by kernel_rfl,by kernel_rfl,rfl⟩
theorem ok_topo_Loops:Q9 Tryz.prog 97 (topo_Loops.c 29 104 62 105) topo_Loops.r topo_Loops.n:=⟨Tryz.f97,(Tryz.f97.body).getD .skip,Tryz.func97,rfl,by kernel_rfl,by kernel_rfl,rfl⟩
theorem ok_ref10_simple:Q9 Tryz.prog 119 (ref10_simple.c 113 71 114) ref10_simple.r ref10_simple.n:=⟨Tryz.f119,(Tryz.f119.body).getD .skip,Tryz.func119,rfl,by kernel_rfl,by kernel_rfl,rfl⟩
theorem ok_ref10_source:Q9 Tryz.prog 120 ref10_source.c ref10_source.r ref10_source.n:=⟨Tryz.f120,(Tryz.f120.body).getD .skip,Tryz.func120,rfl,by kernel_rfl,by kernel_rfl,rfl⟩
theorem ok_ref10_Loops:Q9 Tryz.prog 81 (ref10_Loops.c 18 72 119 120) ref10_Loops.r ref10_Loops.n:=⟨Tryz.f81,(Tryz.f81.body).getD .skip,Tryz.func81,rfl,by kernel_rfl,by kernel_rfl,rfl⟩
theorem ok_holes_extend:Q9 Tryz.prog 98 holes_extend.c holes_extend.r holes_extend.n:=⟨Tryz.f98,(Tryz.f98.body).getD .skip,Tryz.func98,rfl,by kernel_rfl,by kernel_rfl,rfl⟩
theorem ok_holes_Fill:Q9 Tryz.prog 58 (holes_Fill.c 29 97 54 85 99 98) holes_Fill.r holes_Fill.n:=⟨Tryz.f58,(Tryz.f58.body).getD .skip,Tryz.func58,rfl,by kernel_rfl,by kernel_rfl,rfl⟩
theorem ok_ref12_Fill:Q9 Tryz.prog 42 (ref12_Fill.c 18 81 82) ref12_Fill.r ref12_Fill.n:=⟨Tryz.f42,(Tryz.f42.body).getD .skip,Tryz.func42,rfl,by kernel_rfl,by kernel_rfl,rfl⟩
theorem Ix:Q9 Tryz.prog 33 (repair_inverted.c 60 66) repair_inverted.r repair_inverted.n:=⟨Tryz.f33,(Tryz.f33.body).getD .skip,Tryz.func33,rfl,by kernel_rfl,by kernel_rfl,rfl⟩
theorem ok_repair_Check:Q9 Tryz.prog 12 (repair_Check.c 29 30 31 32 33) repair_Check.r repair_Check.n:=⟨Tryz.f12,(Tryz.f12.body).getD .skip,Tryz.func12,rfl,by kernel_rfl,by kernel_rfl,rfl⟩
theorem ok_ref14_part:Q9 Tryz.prog 38 ref14_part.c ref14_part.r ref14_part.n:=⟨Tryz.f38,(Tryz.f38.body).getD .skip,Tryz.func38,rfl,by kernel_rfl,by kernel_rfl,rfl⟩
theorem ok_ref14_Check:Q9 Tryz.prog 15 (ref14_Check.c 18 35 36 37 14 38 21) ref14_Check.r ref14_Check.n:=⟨Tryz.f15,(Tryz.f15.body).getD .skip,Tryz.func15,rfl,by kernel_rfl,by kernel_rfl,rfl⟩
theorem ok_ref14_Repair:Q9 Tryz.prog 16 (ref14_Repair.c 39 40 41 42 43 15 14) ref14_Repair.r ref14_Repair.n:=⟨Tryz.f16,(Tryz.f16.body).getD .skip,Tryz.func16,rfl,by kernel_rfl,by kernel_rfl,rfl⟩
theorem Iv:Q9 Tryz.prog 23 (repair_job_weld.c 55) repair_job_weld.r repair_job_weld.n:=⟨Tryz.f23,(Tryz.f23.body).getD .skip,Tryz.func23,rfl,by kernel_rfl,by kernel_rfl,rfl⟩
theorem I3:Q9 Tryz.prog 24 (repair_job_clean.c 56) repair_job_clean.r repair_job_clean.n:=⟨Tryz.f24,(Tryz.f24.body).getD .skip,Tryz.func24,rfl,by kernel_rfl,by kernel_rfl,rfl⟩
theorem Ur:Q9 Tryz.prog 25 (repair_job_orient.c 57) repair_job_orient.r repair_job_orient.n:=⟨Tryz.f25,(Tryz.f25.body).getD .skip,Tryz.func25,rfl,by kernel_rfl,by kernel_rfl,rfl⟩
theorem Iw:Q9 Tryz.prog 26 (repair_job_fill.c 58) repair_job_fill.r repair_job_fill.n:=⟨Tryz.f26,(Tryz.f26.body).getD .skip,Tryz.func26,rfl,by kernel_rfl,by kernel_rfl,rfl⟩
theorem Uh:Q9 Tryz.prog 27 (repair_job_outward.c 59) repair_job_outward.r repair_job_outward.n:=⟨Tryz.f27,(Tryz.f27.body).getD .skip,Tryz.func27,rfl,by kernel_rfl,by kernel_rfl,rfl⟩
theorem I4:Q9 Tryz.prog 28 (repair_job_check.c 60 12) repair_job_check.r repair_job_check.n:=⟨Tryz.f28,(Tryz.f28.body).getD .skip,Tryz.func28,rfl,by kernel_rfl,by kernel_rfl,rfl⟩
theorem ok_repair_Repair:Q9 Tryz.prog 11 (repair_Repair.c 23 24 25 26 27 28) repair_Repair.r repair_Repair.n:=⟨Tryz.f11,(Tryz.f11.body).getD .skip,Tryz.func11,rfl,by kernel_rfl,by kernel_rfl,rfl⟩
theorem ok_law14_few:Q9 Tryz.prog 9 law14_few.c law14_few.r law14_few.n:=⟨Tryz.f9,(Tryz.f9.body).getD .skip,Tryz.func9,rfl,by kernel_rfl,by kernel_rfl,rfl⟩
theorem ok_law14_works:Q9 Tryz.prog 10 (law14_works.c 11 12) law14_works.r law14_works.n:=⟨Tryz.f10,(Tryz.f10.body).getD .skip,Tryz.func10,rfl,by kernel_rfl,by kernel_rfl,rfl⟩
theorem ok_vec_Cross:Q9 Tryz.prog 108 (vec_Cross.c 131) vec_Cross.r vec_Cross.n:=⟨Tryz.f108,(Tryz.f108.body).getD .skip,Tryz.func108,rfl,by kernel_rfl,by kernel_rfl,rfl⟩
theorem ok_vec_Dot:Q9 Tryz.prog 132 (vec_Dot.c 131 103) vec_Dot.r vec_Dot.n:=⟨Tryz.f132,(Tryz.f132.body).getD .skip,Tryz.func132,rfl,by kernel_rfl,by kernel_rfl,rfl⟩
theorem Ut:Q9 Tryz.prog 89 (ref04_Cross.c 87) ref04_Cross.r ref04_Cross.n:=⟨Tryz.f89,(Tryz.f89.body).getD .skip,Tryz.func89,rfl,by kernel_rfl,by kernel_rfl,rfl⟩
theorem ok_ref04_Dot:Q9 Tryz.prog 88 (ref04_Dot.c 87 86) ref04_Dot.r ref04_Dot.n:=⟨Tryz.f88,(Tryz.f88.body).getD .skip,Tryz.func88,rfl,by kernel_rfl,by kernel_rfl,rfl⟩
theorem ok_law14_RepairRepairs:Q9 Tryz.prog 5 (law14_RepairRepairs.c 9 10 11 16 13) law14_RepairRepairs.r law14_RepairRepairs.n:=⟨Tryz.f5,(Tryz.f5.body).getD .skip,Tryz.func5,rfl,by kernel_rfl,by kernel_rfl,rfl⟩
end Go.Proofs.YtcdjgldeiaiaoaaGreat
