/- What the program's functions on bases do to values. -/
import Derived.Test.YtoppidobgkgiiaaCon
import Derived.Test.YtoppidobgkgiiaaGoShpM
set_option linter.unusedVariables false
set_option linter.unusedSimpArgs false
namespace Go.Proofs.Ytoppidobgkgiiaa
open Go.Abs

theorem k_cross : Cross2C Try.prog 97 := planar_Cross_ok mix ok_planar_Cross (planar_Valid_ok mix ok_planar_Valid)
theorem k_turn2 : Turn2C Try.prog 89 := planar_Turn_ok mix ok_planar_Turn k_cross
theorem k_convex : ConvexC Try.prog 70 := shapes_convex_ok mix ok_shapes_convex k_turn2
theorem k_level : LevelC Try.prog 41 := shapes_level_ok mix ok_shapes_level
theorem k_bottom : BottomC Try.prog 42 := shapes_bottom_ok mix ok_shapes_bottom
theorem k_solid : SolidC Try.prog 43 := shapes_solid_ok mix ok_shapes_solid k_fits k_convex
theorem k_Prism : PrismC Try.prog 14 := shapes_Prism_ok mix ok_shapes_Prism k_level k_bottom k_solid
theorem k_Pyramid : PyrC Try.prog 16 := shapes_Pyramid_ok mix ok_shapes_Pyramid k_level k_bottom k_solid
theorem k_cut : CutC Try.prog 13 := law13_cut_ok mix ok_law13_cut
end Go.Proofs.Ytoppidobgkgiiaa
