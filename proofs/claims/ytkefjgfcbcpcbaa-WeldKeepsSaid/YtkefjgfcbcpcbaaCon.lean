/- What the program's functions do to values. -/
import Derived.Test.YtkefjgfcbcpcbaaOk
import Derived.Test.YtkefjgfcbcpcbaaLay
import Derived.Test.YtkefjgfcbcpcbaaGoWeK
import Derived.Test.YtkefjgfcbcpcbaaGoWeJ
import Derived.Test.YtkefjgfcbcpcbaaGoSch
set_option linter.unusedVariables false
set_option linter.unusedSimpArgs false
namespace Go.Proofs.Ytkefjgfcbcpcbaa
open Go.Abs

theorem mix : Try.prog.follows .mixedOrders = true := by rfl
theorem own : ownKnob Try.prog.godebug = none := by kernel_rfl
theorem laid : laidOutB Try.prog = true := by kernel_rfl
theorem k_vValid : ValidC Try.prog 33 := vec_Valid_ok mix ok_vec_Valid (vec_within_ok mix ok_vec_within)
theorem k_rValid : ValidC Try.prog 27 := ref04_Valid_ok mix ok_ref04_Valid (ref04_within_ok mix ok_ref04_within)
theorem k_Check : CheckC Try.prog 22 := mesh_Check_ok mix ok_mesh_Check k_vValid
theorem k_rCheck : CheckC Try.prog 13 := ref07_Check_ok mix ok_ref07_Check k_rValid
theorem k_Sort : SortC Try.prog 34 3 := sort_ok sortVecL Try.isAgg36 Try.sizeOf36
theorem k_Less : LessC Try.prog 36 := vec_Less_ok mix ok_vec_Less
theorem k_rLess : LessC Try.prog 15 := ref04_Less_ok mix ok_ref04_Less
theorem k_cmp : CmpVC Try.prog 35 := weld_used_1_ok mix ok_weld_used_1 k_Less
theorem k_used : UsedC Try.prog 23 := weld_used_ok mix ok_weld_used k_Sort k_cmp (by kernel_rfl)
theorem k_Weld : WeldC Try.prog 9 := weld_Weld_ok mix ok_weld_Weld k_Check k_used
theorem k_find : FindC Try.prog 24 := ref09_find_ok mix ok_ref09_find
theorem k_rused : UsedBC Try.prog 25 := ref09_used_ok mix ok_ref09_used
theorem k_insert : InsertC Try.prog 26 := ref09_insert_ok mix ok_ref09_insert k_rLess
theorem k_rWeld : WeldC Try.prog 10 := ref09_Weld_ok mix ok_ref09_Weld k_rCheck k_find k_rused k_insert
theorem k_few : FewC Try.prog 8 := law09_few_ok mix ok_law09_few
theorem k_same : SameWC Try.prog 11 := law09_same_ok mix ok_law09_same
theorem k_vCorners : CornersC Try.prog 31 := mesh_Corners_ok mix ok_mesh_Corners k_Check
theorem k_rCorners : CornersC Try.prog 14 := ref07_Corners_ok mix ok_ref07_Corners k_rCheck
theorem k_small : SmallVC Try.prog 46 := vec_small_ok mix ok_vec_small (vec_within_ok mix ok_vec_within)
theorem k_rsmall : SmallVC Try.prog 47 := ref04_small_ok mix ok_ref04_small (ref04_within_ok mix ok_ref04_within)
theorem k_coll : CollC Try.prog 30 := vec_Collinear_ok mix ok_vec_Collinear k_vValid (vec_Sub_ok mix ok_vec_Sub k_vValid) (vec_Cross_ok mix ok_vec_Cross k_small)
theorem k_rcoll : CollC Try.prog 32 := ref04_Collinear_ok mix ok_ref04_Collinear k_rValid (ref04_Sub_ok mix ok_ref04_Sub k_rValid) (ref04_Cross_ok mix ok_ref04_Cross k_rsmall)
theorem k_deg : DegC Try.prog 19 := weld_Degenerate_ok mix ok_weld_Degenerate k_vCorners k_coll
theorem k_rdeg : DegC Try.prog 20 := ref09_Degenerate_ok mix ok_ref09_Degenerate k_rCorners k_rcoll
theorem k_twins : TwinsC Try.prog 21 := ref09_Twins_ok mix ok_ref09_Twins
theorem k_turned : TurnedC Try.prog 29 := weld_turned_ok mix ok_weld_turned (weld_before_ok mix ok_weld_before)
theorem k_clean : CleanC Try.prog 16 := weld_Clean_ok mix ok_weld_Clean k_Check (slices_Clone3_ok mix ok_slices_Clone_api_Vec_api_Vec) k_turned k_coll
theorem k_rclean : CleanC Try.prog 18 := ref09_Clean_ok mix ok_ref09_Clean k_rCheck k_rdeg k_twins
theorem k_corn : CornEqC Try.prog 17 := law09_corners_ok mix ok_law09_corners k_rCorners
theorem awake_ok : AwakeC Try.prog 12 := law09_awake_ok mix ok_law09_awake k_Weld
end Go.Proofs.Ytkefjgfcbcpcbaa
