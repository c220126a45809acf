/- What the program's functions do to values. -/
import Derived.Test.YtaffnmhokdhgdaaRun
import Derived.Test.YtaffnmhokdhgdaaGoSch
set_option linter.unusedVariables false
set_option linter.unusedSimpArgs false
namespace Go.Proofs.Ytaffnmhokdhgdaa
open Go.Abs

theorem k_vValid : ValidC Try.prog 20 := vec_Valid_ok mix ok_vec_Valid (vec_within_ok mix ok_vec_within)
theorem k_rValid : ValidC Try.prog 22 := ref04_Valid_ok mix ok_ref04_Valid (ref04_within_ok mix ok_ref04_within)
theorem k_Check : CheckC Try.prog 16 := mesh_Check_ok mix ok_mesh_Check k_vValid
theorem k_rCheck : CheckC Try.prog 26 := ref07_Check_ok mix ok_ref07_Check k_rValid
theorem k_Corners : CornersC Try.prog 24 := mesh_Corners_ok mix ok_mesh_Corners k_Check
theorem k_Reverse : ReverseC Try.prog 17 := mesh_Reverse_ok mix ok_mesh_Reverse k_Check
theorem k_Round : RoundC Try.prog 29 := num_Round_ok mix ok_num_Round (num_Floor_ok mix ok_num_Floor)
theorem k_Point : PointC Try.prog 9 := section_Point_ok mix ok_section_Point k_vValid (section_cross_ok mix ok_section_cross k_Round)
theorem k_rPoint : PointC Try.prog 10 := ref15_Point_ok mix ok_ref15_Point k_rValid (ref15_rounded_ok mix ok_ref15_rounded)
theorem k_Cut : SecC Try.prog 13 := section_Cut_ok mix ok_section_Cut k_Check k_Corners (section_cut_ok mix ok_section_cut k_Point)
theorem k_rCut : SecC Try.prog 14 := ref15_Cut_ok mix ok_ref15_Cut k_rCheck k_rPoint
theorem k_Small : SmallC Try.prog 12 := law15_Small_ok mix ok_law15_Small
theorem k_segs : SegsC Try.prog 15 := law15_segs_ok mix ok_law15_segs
end Go.Proofs.Ytaffnmhokdhgdaa
