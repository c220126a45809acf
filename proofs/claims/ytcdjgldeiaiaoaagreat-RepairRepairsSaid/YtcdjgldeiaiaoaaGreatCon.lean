/- What the program's functions do to values. -/
import Derived.Test.YtcdjgldeiaiaoaaGreatOk
import Derived.Test.YtcdjgldeiaiaoaaGreatLay
import Derived.Test.YtcdjgldeiaiaoaaGreatLayJ
import Derived.Test.YtcdjgldeiaiaoaaGreatAbsST
import Derived.Test.YtcdjgldeiaiaoaaGreatAbsSI
import Derived.Test.YtcdjgldeiaiaoaaGreatGoOriA
set_option linter.unusedVariables false
set_option linter.unusedSimpArgs false
namespace Go.Proofs.YtcdjgldeiaiaoaaGreat
open Go.Abs
theorem mix:Tryz.prog.follows .mixedOrders=true:=by rfl
theorem own:ownKnob Tryz.prog.godebug=none:=by kernel_rfl
theorem laid:laidOutB Tryz.prog=true:=by kernel_rfl
theorem k_Sort:SortC Tryz.prog 106 2:=sort_ok sortEdgeL Tryz.isAgg86 Tryz.sizeOf86
theorem k_SortV:SortC Tryz.prog 121 3:=sort_ok sortVecL Tryz.isAgg38 Tryz.sizeOf38
theorem k_SortI:SortIC Tryz.prog 102:=sortI_ok sortIntL
theorem k_within:Xs Tryz.prog 103:=vec_within_ok mix ok_vec_within
theorem En:Xs Tryz.prog 86:=ref04_within_ok mix ok_ref04_within
theorem k_vValid:W6 Tryz.prog 61:=vec_Valid_ok mix ok_vec_Valid k_within
theorem k_rValid:W6 Tryz.prog 49:=ref04_Valid_ok mix ok_ref04_Valid En
theorem Yp:Z8 Tryz.prog 29:=mesh_Check_ok mix ok_mesh_Check k_vValid
theorem Y5:Z8 Tryz.prog 18:=ref07_Check_ok mix ok_ref07_Check k_rValid
theorem k_Less:LessC Tryz.prog 123:=vec_Less_ok mix ok_vec_Less
theorem k_rLess:LessC Tryz.prog 117:=ref04_Less_ok mix ok_ref04_Less
theorem k_cmp:CmpVC Tryz.prog 122:=weld_used_1_ok mix ok_weld_used_1 k_Less
theorem k_used:UsedC Tryz.prog 90:=weld_used_ok mix ok_weld_used k_SortV k_cmp (by kernel_rfl)
theorem k_Weld:WeldC Tryz.prog 55:=weld_Weld_ok mix ok_weld_Weld Yp k_used
theorem k_find:FindC Tryz.prog 76:=ref09_find_ok mix ok_ref09_find
theorem k_rused:UsedBC Tryz.prog 77:=ref09_used_ok mix ok_ref09_used
theorem k_insert:InsertC Tryz.prog 78:=ref09_insert_ok mix ok_ref09_insert k_rLess
theorem k_rWeld:WeldC Tryz.prog 39:=ref09_Weld_ok mix ok_ref09_Weld Y5 k_find k_rused k_insert
theorem k_vCorners:Wq Tryz.prog 64:=mesh_Corners_ok mix ok_mesh_Corners Yp
theorem k_rCorners:Wq Tryz.prog 74:=ref07_Corners_ok mix ok_ref07_Corners Y5
theorem k_small:Je Tryz.prog 131:=Bj mix ok_vec_small k_within
theorem k_rsmall:Je Tryz.prog 87:=ref04_small_ok mix Us En
theorem k_smallW:SmallWC Tryz.prog 131:=I8 mix ok_vec_small k_within
theorem k_rsmallW:SmallWC Tryz.prog 87:=I8 mix Us En
theorem k_Sub:SubVC Tryz.prog 109:=vec_Sub_ok mix ok_vec_Sub k_vValid
theorem k_rSub:SubVC Tryz.prog 116:=ref04_Sub_ok mix ok_ref04_Sub k_rValid
theorem k_coll:CollC Tryz.prog 65:=vec_Collinear_ok mix ok_vec_Collinear k_vValid k_Sub (I9 mix ok_vec_Cross k_smallW)
theorem k_rcoll:CollC Tryz.prog 75:=In mix Iy k_rValid k_rSub (I9 mix Ut k_rsmallW)
theorem k_deg:DegC Tryz.prog 32:=Kc mix Ir k_vCorners k_coll
theorem k_rdeg:DegC Tryz.prog 37:=I2 mix I7 k_rCorners k_rcoll
theorem k_twins:TwinsC Tryz.prog 79:=ref09_Twins_ok mix ok_ref09_Twins
theorem k_before9:BeforeC Tryz.prog 124:=weld_before_ok mix ok_weld_before
theorem k_turned:TurnedC Tryz.prog 91:=weld_turned_ok mix ok_weld_turned k_before9
theorem k_CloneV:Kw Tryz.prog 54 3:=Wa mix Xu
theorem k_CloneT:Kw Tryz.prog 85 3:=slices_CloneT_ok mix Xv
theorem k_clean:CleanC Tryz.prog 56:=weld_Clean_ok mix ok_weld_Clean Yp k_CloneV k_turned k_coll
theorem k_rclean:CleanC Tryz.prog 40:=ref09_Clean_ok mix ok_ref09_Clean Y5 k_rdeg k_twins
theorem k_edges:Ye Tryz.prog 92:=Ub mix ok_orient_edges
theorem k_coh:CohC Tryz.prog 63:=Ip mix B0 k_edges
theorem k_uses11:Ye Tryz.prog 115:=ref11_uses_ok mix ok_ref11_uses
theorem k_coh11:CohC Tryz.prog 73:=By mix ok_ref11_coherent k_uses11
theorem k_Coherent:Kb Tryz.prog 31:=Iq mix B3 Yp k_coh
theorem k_Coherent11:Kb Tryz.prog 36:=ref11_Coherent_ok mix ok_ref11_Coherent Y5 k_coh11
theorem k_tedges:Ye Tryz.prog 100:=topo_edges_ok mix ok_topo_edges
theorem k_counted:CountedC Tryz.prog 104:=topo_counted_ok mix ok_topo_counted Yp k_tedges
theorem k_rev:RevC Tryz.prog 105:=U9 mix ok_topo_reverse
theorem k_und:UndC Tryz.prog 101:=X1 mix Iu
theorem k_NaN:NaNC Tryz.prog 153:=isNaN_ok mix ok_cmp_isNaN_int
theorem k_Cmp:CmpC Tryz.prog 130:=Compare_ok mix B4 k_NaN
theorem k_Or:OrC Tryz.prog 129:=Or_ok mix ok_cmp_Or_int
theorem k_order:OrderC Tryz.prog 107:=topo_order_ok mix ok_topo_order k_Cmp k_Or
theorem k_Boundary:Xd Tryz.prog 62:=topo_Boundary_ok mix ok_topo_Boundary k_counted k_rev k_Sort k_order (by kernel_rfl)
theorem k_Closed:W4 Tryz.prog 30:=Ul mix ok_topo_Closed Yp k_Boundary
theorem k_Shells:Xt Tryz.prog 60:=topo_Shells_ok mix ok_topo_Shells Yp k_tedges k_und k_SortI
theorem k_before10:BeforeEC Tryz.prog 112:=ref10_before_ok mix ok_ref10_before
theorem k_place:PlaceC Tryz.prog 69:=ref10_place_ok mix ok_ref10_place k_before10
theorem k_number:NumberC Tryz.prog 71:=ref10_number_ok mix ok_ref10_number k_place
theorem k_with:WithC Tryz.prog 111:=ref10_with_ok mix ok_ref10_with k_place
theorem Ba:Ye Tryz.prog 68:=ref10_Directed_ok mix ok_ref10_Directed
theorem k_counts:CountsC Tryz.prog 113:=ref10_counts_ok mix ok_ref10_counts Ba k_with k_place
theorem k_rund:UndC Tryz.prog 70:=I1 mix I6
theorem k_undir:UndirC Tryz.prog 67:=I0 mix I5 Ba k_rund k_with
theorem k_rrev:RevC Tryz.prog 114:=ref10_reverse_ok mix ok_ref10_reverse
theorem k_rBoundary:Xd Tryz.prog 72:=ref10_Boundary_ok mix ok_ref10_Boundary Y5 k_counts k_rrev k_number
theorem k_rClosed:W4 Tryz.prog 35:=ref10_Closed_ok mix ok_ref10_Closed Y5 k_rBoundary
theorem k_spread:SpreadFC Tryz.prog 34:=ref10_spread_ok mix ok_ref10_spread k_undir Ba k_rund k_place k_number
theorem Eo:Xt Tryz.prog 14:=ref10_Shells_ok mix ok_ref10_Shells Y5 k_spread
theorem k_Det:DetC Tryz.prog 110:=vec_Det_ok mix ok_vec_Det k_small (Bl mix ok_vec_Cross k_small) (vec_Dot_ok mix ok_vec_Dot k_small k_within)
theorem k_Vol:VolC Tryz.prog 66:=Ue mix ok_mesh_Volume6 Yp k_Det
theorem k_rDet:DetC Tryz.prog 51:=ref04_Det_ok mix ok_ref04_Det k_rsmall (ref04_Cross_ok mix Ut k_rsmall) (ref04_Dot_ok mix ok_ref04_Dot k_rsmall En)
theorem k_rVol:VolC Tryz.prog 21:=ref07_Volume6_ok mix ok_ref07_Volume6 Y5 k_rDet
theorem k_Same:SameMC Tryz.prog 13:=ref07_Same_ok mix ok_ref07_Same
theorem k_Rev3:RevTC Tryz.prog 96:=Ki mix Iz
theorem k_rRev3:RevTC Tryz.prog 84:=Bz mix ok_ref11_Reversed
theorem k_Outward:Wn Tryz.prog 59:=orient_Outward_ok mix ok_orient_Outward Yp k_Closed k_coh k_CloneV k_CloneT k_Shells k_Vol k_Rev3
theorem k_part11:PartC Tryz.prog 83:=Ib mix ok_ref11_part
theorem k_rOutward:Wn Tryz.prog 43:=ref11_Outward_ok mix ok_ref11_Outward Y5 k_rClosed k_coh11 Eo k_part11 k_rVol k_rRev3
theorem k_both:UndC Tryz.prog 93:=orient_both_ok mix ok_orient_both
theorem k_Idx:IdxEC Tryz.prog 125:=slices_IndexE_ok mix Xg
theorem k_Has:HasEC Tryz.prog 95:=Ew mix Yu k_Idx
theorem k_Visit:VisitC Tryz.prog 94:=orient_visit_ok mix B1 k_edges k_Has k_Rev3
theorem k_Orient:Es Tryz.prog 57:=orient_Orient_ok mix ok_orient_Orient Yp k_CloneT k_edges k_both k_Visit (by kernel_rfl) k_coh k_CloneV
theorem k_common:CommonC Tryz.prog 118:=ref11_common_ok mix ok_ref11_common k_uses11
theorem k_spreadO:SpreadOC Tryz.prog 80:=ref11_spread_ok mix ok_ref11_spread k_common k_rRev3
theorem k_rOrient:Es Tryz.prog 41:=ref11_Orient_ok mix ok_ref11_Orient Y5 Eo k_spreadO k_coh11
theorem k_Fan:FanC Tryz.prog 99:=holes_Fan_ok mix ok_holes_Fan
theorem k_rFan:FanC Tryz.prog 82:=ref12_Fan_ok mix ok_ref12_Fan
theorem k_Loops:LoopsC Tryz.prog 97:=topo_Loops_ok mix ok_topo_Loops Yp k_counted k_Boundary k_rev
theorem k_simple:SimpleC Tryz.prog 119:=ref10_simple_ok mix ok_ref10_simple k_counts k_number k_rrev
theorem k_source:SourceC Tryz.prog 120:=ref10_source_ok mix ok_ref10_source
theorem k_rLoops:LoopsC Tryz.prog 81:=ref10_Loops_ok mix ok_ref10_Loops Y5 k_rBoundary k_simple k_source
theorem k_extend:ExtendC Tryz.prog 98:=holes_extend_ok mix ok_holes_extend
theorem k_Fill:FillC Tryz.prog 58:=holes_Fill_ok mix ok_holes_Fill Yp k_Loops k_CloneV k_CloneT k_Fan k_extend
theorem k_rFill:FillC Tryz.prog 42:=ref12_Fill_ok mix ok_ref12_Fill Y5 k_rLoops k_rFan
theorem k_inv:InvC Tryz.prog 33:=Im mix Ix k_Shells k_Vol
theorem k_Chk:ChkC Tryz.prog 12:=repair_Check_ok mix ok_repair_Check Yp k_Closed k_Coherent k_deg k_inv
theorem k_part14:PartC Tryz.prog 38:=ref14_part_ok mix ok_ref14_part
theorem k_rChk:ChkC Tryz.prog 15:=ref14_Check_ok mix ok_ref14_Check Y5 k_rClosed k_Coherent11 k_rdeg Eo k_part14 k_rVol
theorem k_rRep:RepC Tryz.prog 16:=ref14_Repair_ok mix ok_ref14_Repair k_rWeld k_rclean k_rOrient k_rFill k_rOutward k_rChk Eo
theorem k_jw:JobC Tryz.prog 23 okJ (Uy 0):=(Ik mix Iv k_Weld).ok λ_ _ h=>h
theorem k_jc:JobC Tryz.prog 24 okJ (Uy 1):=(Ey mix I3 k_clean).ok λ_ _ _=>trivial
theorem k_jo:JobC Tryz.prog 25 okJ (Uy 3):=(Uo mix Ur k_Orient).ok λ_ _ _=>trivial
theorem k_jf:JobC Tryz.prog 26 okJ (Uy 4):=(Il mix Iw k_Fill).ok λ_ _ _=>trivial
theorem k_ju:JobC Tryz.prog 27 okJ (Uy 5):=(Ug mix Uh k_Outward).ok λ_ _ _=>trivial
theorem k_jk:JobC Tryz.prog 28 okJ (Uy 6):=(Ez mix I4 k_Shells k_Chk).ok λ_ _ _=>trivial
theorem k_Rep:RepC Tryz.prog 11:=repair_Repair_ok mix ok_repair_Repair λk hk=>match k,hk with | 0,_=>⟨by kernel_rfl,k_jw⟩ | 1,_=>⟨by kernel_rfl,k_jc⟩ | 2,_=>⟨by kernel_rfl,k_jw⟩ | 3,_=>⟨by kernel_rfl,k_jo⟩ | 4,_=>⟨by kernel_rfl,k_jf⟩ | 5,_=>⟨by kernel_rfl,k_ju⟩ | 6,_=>⟨by kernel_rfl,k_jk⟩
theorem k_few:FewRC Tryz.prog 9:=law14_few_ok mix ok_law14_few
theorem awake_ok:AwakeC Tryz.prog 10:=law14_works_ok mix ok_law14_works k_Rep k_Chk
end Go.Proofs.YtcdjgldeiaiaoaaGreat
