/- What cloning a slice does to values: a new object that holds the same cells. -/
import Derived.Test.YtlmjnmmppffhaaaGoShp
import Derived.Test.YtlmjnmmppffhaaaAbsZF
import Derived.Test.YtlmjnmmppffhaaaGoHeap
set_option linter.unusedVariables false
set_option linter.unusedSimpArgs false
namespace Go.Abs

def CloneC (P : Program) (f : FuncId) (sz : Nat) : Prop := ∀ els : List (List V), els.all (fun el => el.all V.isD) = true → els.length ≤ 1000000 → NewC P f [.l sz els] (fun r h => r = .own 0 1 0 els.length ∧ h = [.arr 1 sz els])

theorem isD_cl {x : V} (n : Nat) (h : x.isD = true) : x.cl n = true := by cases x <;> simp [V.isD] at h <;> simp [V.cl, V.cl1, V.cl0]

section
variable {P : Program} (hm : P.follows .mixedOrders = true)
include hm

theorem slices_Clone3_ok {f : FuncId} (hf : FnOk P f slices_Clone_api_Vec_api_Vec.c slices_Clone_api_Vec_api_Vec.r slices_Clone_api_Vec_api_Vec.n) : CloneC P f 3 := by
  intro els hel hlen
  refine ACall_ghost 3 ?_
  refine new_of hm hf (Nat.le_of_ble_eq_true rfl) ?_
  unfold slices_Clone_api_Vec_api_Vec.c
  cases els with
  | nil => simp [go_sem, slices_Clone_api_Vec_api_Vec.r]
  | cons e l =>
    simp only [List.length_cons] at hlen
    simp [go_sem, slices_Clone_api_Vec_api_Vec.r]
    simp only [List.all_cons, Bool.and_eq_true, List.all_eq_true] at hel
    exact ⟨⟨by omega, by omega⟩, fun x hx => isD_cl 1 (hel.1 x hx), fun a ha x hx => isD_cl 1 (hel.2 a ha x hx)⟩
theorem slices_CloneT_ok {f : FuncId} (hf : FnOk P f slices_Clone_api_Tri_api_Tri.c slices_Clone_api_Tri_api_Tri.r slices_Clone_api_Tri_api_Tri.n) : CloneC P f 3 := slices_Clone3_ok hm hf
end

/-- Cloning, for closed runs. -/
def cloneK (sz : Nat) : List V → Option (V × List O)
  | [.l sz' els] => bif sz' == sz && Nat.ble els.length 1000 && els.all (fun el => el.all V.isD) then some (.own 0 1 0 els.length, [.arr 1 sz els]) else none
  | [.nil] => some (.own 0 1 0 0, [.arr 1 sz []])
  | _ => none
theorem cloneK_ok {P : Program} {f : FuncId} {sz : Nat} {vs : List V} {r0 : V} {h0 : List O} (hc : CloneC P f sz) (he : cloneK sz vs = some (r0, h0)) : NewC P f vs (fun r h => r = r0 ∧ h = h0) := by
  unfold cloneK at he
  split at he
  · rename_i sz' els
    cases hb : sz' == sz && Nat.ble els.length 1000 && els.all (fun el => el.all V.isD)
    · rw [hb] at he; simp at he
    rw [hb] at he
    simp only [cond_true, Option.some.injEq, Prod.mk.injEq] at he
    obtain ⟨rfl, rfl⟩ := he
    simp only [Bool.and_eq_true, beq_iff_eq] at hb
    obtain ⟨⟨rfl, h2⟩, h3⟩ := hb
    exact hc els h3 (Nat.le_trans (Nat.le_of_ble_eq_true h2) (by omega))
  · simp only [Option.some.injEq, Prod.mk.injEq] at he
    obtain ⟨rfl, rfl⟩ := he
    have hl : LeL Le [V.nil] [.l sz []] := ⟨.inl (.inl (Le0.nil sz)), trivial⟩
    exact ACall_le hl (hc [] rfl (by simp))
  · simp at he
end Go.Abs

