/- More functions on meshes whose answers closed runs take as known. -/
import Derived.Test.YtlmjnmmppffhaaaGoKn
import Derived.Test.YtlmjnmmppffhaaaGoTpE
set_option linter.unusedVariables false
set_option linter.unusedSimpArgs false
namespace Go.Abs

def edgesLK : List V → Option (V × List O)
  | [v] => (decM v).map fun m => (psV m.edgesL, [])
  | _ => none
theorem edgesLK_ok {P : Program} {f : FuncId} {vs : List V} {r0 : V} {h0 : List O} (hc : EdgesLC P f) (he : edgesLK vs = some (r0, h0)) : NewC P f vs (fun r h => r = r0 ∧ h = h0) := by
  unfold edgesLK at he
  split at he
  · rw [Option.map_eq_some_iff] at he
    obtain ⟨m, hm, he⟩ := he
    simp only [Prod.mk.injEq] at he
    obtain ⟨rfl, rfl⟩ := he
    rw [decM_ok hm]
    exact hc m []
  · simp at he
end Go.Abs

