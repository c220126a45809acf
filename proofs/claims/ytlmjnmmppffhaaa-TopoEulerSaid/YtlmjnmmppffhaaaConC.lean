/- What the program's functions do to values. -/
import Derived.Test.YtlmjnmmppffhaaaOkC
import Derived.Test.YtlmjnmmppffhaaaConB
set_option linter.unusedVariables false
set_option linter.unusedSimpArgs false
namespace Go.Proofs.Ytlmjnmmppffhaaa
open Go.Abs

theorem k_Join : JoinC Try.prog 28 := mesh_Join_ok mix ok_mesh_Join k_Check
theorem k_Euler : EulerC Try.prog 29 := topo_Euler_ok mix ok_topo_Euler k_Check k_Edges
theorem k_rEuler : EulerC Try.prog 30 := ref10_Euler_ok mix ok_ref10_Euler k_rCheck k_rEdges
end Go.Proofs.Ytlmjnmmppffhaaa
