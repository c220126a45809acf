/- What the program's functions do to values. -/
import Derived.Test.YtcdjgldeiaiaoaaGreatOk
import Derived.Test.YtcdjgldeiaiaoaaGreatLay
import Derived.Test.YtcdjgldeiaiaoaaGreatLayJ
import Derived.Test.YtcdjgldeiaiaoaaGreatAbsST
import Derived.Test.YtcdjgldeiaiaoaaGreatAbsSI
import Derived.Test.YtcdjgldeiaiaoaaGreatGoOriA
set_option linter.unusedVariables false
set_option linter.unusedSimpArgs false
namespace Go.Proofs.YtcdjgldeiaiaoaaGreat
open Go.Abs
theorem mix:Tryz.prog.follows .mixedOrders = true:=by rfl
theorem own:ownKnob Tryz.prog.godebug = none:=by kernel_rfl
theorem laid:laidOutB Tryz.prog = true:=by kernel_rfl
theorem k_Sort:SortC Tryz.prog 106 2:=sort_ok sortEdgeL Tryz.isAgg86 Tryz.sizeOf86
theorem k_SortV:SortC Tryz.prog 121 3:=sort_ok sortVecL Tryz.isAgg38 Tryz.sizeOf38
theorem k_SortI:SortIC Tryz.prog 102:=sortI_ok sortIntL
theorem k_within:WithinC Tryz.prog 103:=vec_within_ok mix ok_vec_within
theorem k_rwithin:WithinC Tryz.prog 86:=ref04_within_ok mix ok_ref04_within
theorem k_vValid:ValidC Tryz.prog 61:=vec_Valid_ok mix ok_vec_Valid k_within
theorem k_rValid:ValidC Tryz.prog 49:=ref04_Valid_ok mix ok_ref04_Valid k_rwithin
theorem k_Check:CheckC Tryz.prog 29:=mesh_Check_ok mix ok_mesh_Check k_vValid
theorem k_Check7:CheckC Tryz.prog 18:=ref07_Check_ok mix ok_ref07_Check k_rValid
theorem k_Less:LessC Tryz.prog 123:=vec_Less_ok mix ok_vec_Less
theorem k_cmp:CmpVC Tryz.prog 122:=weld_used_1_ok mix ok_weld_used_1 k_Less
theorem k_used:UsedC Tryz.prog 90:=weld_used_ok mix ok_weld_used k_SortV k_cmp (by kernel_rfl)
theorem k_Weld:WeldC Tryz.prog 55:=weld_Weld_ok mix ok_weld_Weld k_Check k_used
theorem k_vCorners:CornersC Tryz.prog 64:=mesh_Corners_ok mix ok_mesh_Corners k_Check
theorem k_rCorners:CornersC Tryz.prog 74:=ref07_Corners_ok mix ok_ref07_Corners k_Check7
theorem k_small:SmallVC Tryz.prog 131:=vec_small_ok mix ok_vec_small k_within
theorem k_rsmall:SmallVC Tryz.prog 87:=ref04_small_ok mix ok_ref04_small k_rwithin
theorem k_smallW:SmallWC Tryz.prog 131:=vec_smallW_ok mix ok_vec_small k_within
theorem k_rsmallW:SmallWC Tryz.prog 87:=vec_smallW_ok mix ok_ref04_small k_rwithin
theorem k_Sub:SubVC Tryz.prog 109:=vec_Sub_ok mix ok_vec_Sub k_vValid
theorem k_rSub:SubVC Tryz.prog 116:=ref04_Sub_ok mix ok_ref04_Sub k_rValid
theorem k_coll:CollC Tryz.prog 65:=vec_Collinear_ok mix ok_vec_Collinear k_vValid k_Sub (vec_CrossW_ok mix ok_vec_Cross k_smallW)
theorem k_rcoll:CollC Tryz.prog 75:=ref04_Collinear_ok mix ok_ref04_Collinear k_rValid k_rSub (vec_CrossW_ok mix ok_ref04_Cross k_rsmallW)
theorem k_deg:DegC Tryz.prog 32:=weld_Degenerate_ok mix ok_weld_Degenerate k_vCorners k_coll
theorem k_rdeg:DegC Tryz.prog 37:=ref09_Degenerate_ok mix ok_ref09_Degenerate k_rCorners k_rcoll
theorem k_before9:BeforeC Tryz.prog 124:=weld_before_ok mix ok_weld_before
theorem k_turned:TurnedC Tryz.prog 91:=weld_turned_ok mix ok_weld_turned k_before9
theorem k_CloneV:CloneC Tryz.prog 54 3:=slices_Clone3_ok mix ok_slices_Clone_api_Vec_api_Vec
theorem k_CloneT:CloneC Tryz.prog 85 3:=slices_CloneT_ok mix ok_slices_Clone_api_Tri_api_Tri
theorem k_clean:CleanC Tryz.prog 56:=weld_Clean_ok mix ok_weld_Clean k_Check k_CloneV k_turned k_coll
theorem k_edges:EdgesC Tryz.prog 92:=orient_edges_ok mix ok_orient_edges
theorem k_coh:CohC Tryz.prog 63:=orient_coherent_ok mix ok_orient_coherent k_edges
theorem k_uses11:EdgesC Tryz.prog 115:=ref11_uses_ok mix ok_ref11_uses
theorem k_coh11:CohC Tryz.prog 73:=ref11_coherent_ok mix ok_ref11_coherent k_uses11
theorem k_Coherent:CoherentC Tryz.prog 31:=orient_Coherent_ok mix ok_orient_Coherent k_Check k_coh
theorem k_Coherent11:CoherentC Tryz.prog 36:=ref11_Coherent_ok mix ok_ref11_Coherent k_Check7 k_coh11
theorem k_tedges:EdgesC Tryz.prog 100:=topo_edges_ok mix ok_topo_edges
theorem k_counted:CountedC Tryz.prog 104:=topo_counted_ok mix ok_topo_counted k_Check k_tedges
theorem k_rev:RevC Tryz.prog 105:=topo_reverse_ok mix ok_topo_reverse
theorem k_und:UndC Tryz.prog 101:=topo_undirected_ok mix ok_topo_undirected
theorem k_NaN:NaNC Tryz.prog 153:=isNaN_ok mix ok_cmp_isNaN_int
theorem k_Cmp:CmpC Tryz.prog 130:=Compare_ok mix ok_cmp_Compare_int k_NaN
theorem k_Or:OrC Tryz.prog 129:=Or_ok mix ok_cmp_Or_int
theorem k_order:OrderC Tryz.prog 107:=topo_order_ok mix ok_topo_order k_Cmp k_Or
theorem k_Boundary:BoundaryC Tryz.prog 62:=topo_Boundary_ok mix ok_topo_Boundary k_counted k_rev k_Sort k_order (by kernel_rfl)
theorem k_Closed:ClosedC Tryz.prog 30:=topo_Closed_ok mix ok_topo_Closed k_Check k_Boundary
theorem k_Shells:ShellsC Tryz.prog 60:=topo_Shells_ok mix ok_topo_Shells k_Check k_tedges k_und k_SortI
theorem k_before10:BeforeEC Tryz.prog 112:=ref10_before_ok mix ok_ref10_before
theorem k_place:PlaceC Tryz.prog 69:=ref10_place_ok mix ok_ref10_place k_before10
theorem k_number:NumberC Tryz.prog 71:=ref10_number_ok mix ok_ref10_number k_place
theorem k_with:WithC Tryz.prog 111:=ref10_with_ok mix ok_ref10_with k_place
theorem k_Directed:EdgesC Tryz.prog 68:=ref10_Directed_ok mix ok_ref10_Directed
theorem k_counts:CountsC Tryz.prog 113:=ref10_counts_ok mix ok_ref10_counts k_Directed k_with k_place
theorem k_rund:UndC Tryz.prog 70:=ref10_Undirected_ok mix ok_ref10_Undirected
theorem k_undir:UndirC Tryz.prog 67:=ref10_undirected_ok mix ok_ref10_undirected k_Directed k_rund k_with
theorem k_rrev:RevC Tryz.prog 114:=ref10_reverse_ok mix ok_ref10_reverse
theorem k_rBoundary:BoundaryC Tryz.prog 72:=ref10_Boundary_ok mix ok_ref10_Boundary k_Check7 k_counts k_rrev k_number
theorem k_rClosed:ClosedC Tryz.prog 35:=ref10_Closed_ok mix ok_ref10_Closed k_Check7 k_rBoundary
theorem k_spread:SpreadFC Tryz.prog 34:=ref10_spread_ok mix ok_ref10_spread k_undir k_Directed k_rund k_place k_number
theorem k_rShells:ShellsC Tryz.prog 14:=ref10_Shells_ok mix ok_ref10_Shells k_Check7 k_spread
theorem k_Det:DetC Tryz.prog 110:=vec_Det_ok mix ok_vec_Det k_small (vec_Cross_ok mix ok_vec_Cross k_small) (vec_Dot_ok mix ok_vec_Dot k_small k_within)
theorem k_Vol:VolC Tryz.prog 66:=mesh_Volume6_ok mix ok_mesh_Volume6 k_Check k_Det
theorem k_rDet:DetC Tryz.prog 51:=ref04_Det_ok mix ok_ref04_Det k_rsmall (ref04_Cross_ok mix ok_ref04_Cross k_rsmall) (ref04_Dot_ok mix ok_ref04_Dot k_rsmall k_rwithin)
theorem k_rVol:VolC Tryz.prog 21:=ref07_Volume6_ok mix ok_ref07_Volume6 k_Check7 k_rDet
theorem k_Rev3:RevTC Tryz.prog 96:=orient_reversed_ok mix ok_orient_reversed
theorem k_Outward:OutwardC Tryz.prog 59:=orient_Outward_ok mix ok_orient_Outward k_Check k_Closed k_coh k_CloneV k_CloneT k_Shells k_Vol k_Rev3
theorem k_both:UndC Tryz.prog 93:=orient_both_ok mix ok_orient_both
theorem k_Idx:IdxEC Tryz.prog 125:=slices_IndexE_ok mix ok_slices_Index_api_Edge_api_Edge
theorem k_Has:HasEC Tryz.prog 95:=slices_ContainsE_ok mix ok_slices_Contains_api_Edge_api_Edge k_Idx
theorem k_Visit:VisitC Tryz.prog 94:=orient_visit_ok mix ok_orient_Orient_1 k_edges k_Has k_Rev3
theorem k_Orient:OrientC Tryz.prog 57:=orient_Orient_ok mix ok_orient_Orient k_Check k_CloneT k_edges k_both k_Visit (by kernel_rfl) k_coh k_CloneV
theorem k_Fan:FanC Tryz.prog 99:=holes_Fan_ok mix ok_holes_Fan
theorem k_Loops:LoopsC Tryz.prog 97:=topo_Loops_ok mix ok_topo_Loops k_Check k_counted k_Boundary k_rev
theorem k_extend:ExtendC Tryz.prog 98:=holes_extend_ok mix ok_holes_extend
theorem k_Fill:FillC Tryz.prog 58:=holes_Fill_ok mix ok_holes_Fill k_Check k_Loops k_CloneV k_CloneT k_Fan k_extend
theorem k_inv:InvC Tryz.prog 33:=repair_inverted_ok mix ok_repair_inverted k_Shells k_Vol
theorem k_Chk:ChkC Tryz.prog 12:=repair_Check_ok mix ok_repair_Check k_Check k_Closed k_Coherent k_deg k_inv
theorem k_part14:PartC Tryz.prog 38:=ref14_part_ok mix ok_ref14_part
theorem k_rChk:ChkC Tryz.prog 15:=ref14_Check_ok mix ok_ref14_Check k_Check7 k_rClosed k_Coherent11 k_rdeg k_rShells k_part14 k_rVol
theorem k_jw:JobC Tryz.prog 23 okJ (jobG 0):=(repair_job_weld_ok mix ok_repair_job_weld k_Weld).ok fun _ _ h=>h
theorem k_jc:JobC Tryz.prog 24 okJ (jobG 1):=(repair_job_clean_ok mix ok_repair_job_clean k_clean).ok fun _ _ _=>trivial
theorem k_jo:JobC Tryz.prog 25 okJ (jobG 3):=(repair_job_orient_ok mix ok_repair_job_orient k_Orient).ok fun _ _ _=>trivial
theorem k_jf:JobC Tryz.prog 26 okJ (jobG 4):=(repair_job_fill_ok mix ok_repair_job_fill k_Fill).ok fun _ _ _=>trivial
theorem k_ju:JobC Tryz.prog 27 okJ (jobG 5):=(repair_job_outward_ok mix ok_repair_job_outward k_Outward).ok fun _ _ _=>trivial
theorem k_jk:JobC Tryz.prog 28 okJ (jobG 6):=(repair_job_check_ok mix ok_repair_job_check k_Shells k_Chk).ok fun _ _ _=>trivial
theorem k_Rep:RepC Tryz.prog 11:=repair_Repair_ok mix ok_repair_Repair fun k hk=>match k,hk with | 0,_=>⟨by kernel_rfl,k_jw⟩ | 1,_=>⟨by kernel_rfl,k_jc⟩ | 2,_=>⟨by kernel_rfl,k_jw⟩ | 3,_=>⟨by kernel_rfl,k_jo⟩ | 4,_=>⟨by kernel_rfl,k_jf⟩ | 5,_=>⟨by kernel_rfl,k_ju⟩ | 6,_=>⟨by kernel_rfl,k_jk⟩
theorem k_few:FewRC Tryz.prog 9:=law14_few_ok mix ok_law14_few
theorem awake_ok:AwakeC Tryz.prog 10:=law14_works_ok mix ok_law14_works k_Rep k_Chk
end Go.Proofs.YtcdjgldeiaiaoaaGreat
