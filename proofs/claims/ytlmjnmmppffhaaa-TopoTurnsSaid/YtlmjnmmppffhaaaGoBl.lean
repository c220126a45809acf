/- Arrays of marks. -/
import Derived.Test.YtlmjnmmppffhaaaGoHeap
set_option linter.unusedVariables false
set_option linter.unusedSimpArgs false
namespace Go.Abs

def bl (n : Nat) (g : Nat → Bool) : List (List V) := (List.range n).map fun j => [.b (g j)]
theorem bl_len (n : Nat) (g : Nat → Bool) : (bl n g).length = n := by simp [bl]
theorem bl_get {n : Nat} {g : Nat → Bool} {i : Nat} (h : i < n) : (bl n g)[i]? = some [.b (g i)] := by simp [bl, h]
theorem bl_gete {n : Nat} {g : Nat → Bool} {i : Nat} (h : i < (bl n g).length) : (bl n g)[i] = [.b (g i)] := by simp [bl]
theorem bl_rep (n : Nat) : List.replicate n [V.b false] = bl n (fun _ => false) := by
  apply List.ext_getElem?
  intro i
  by_cases h : i < n
  · rw [bl_get h]; simp [h]
  · rw [List.getElem?_eq_none (by simp; omega), List.getElem?_eq_none (by rw [bl_len]; omega)]
theorem bl_set (n : Nat) (g : Nat → Bool) (i : Nat) (b : Bool) : (bl n g).set i [.b b] = bl n (fun j => if j = i then b else g j) := by
  apply List.ext_getElem?
  intro j
  by_cases h : j < n
  · rw [bl_get h]
    by_cases hj : i = j
    · subst hj
      rw [List.getElem?_set_self (by rw [bl_len]; exact h), if_pos rfl]
    · rw [List.getElem?_set_ne hj, bl_get h, if_neg (fun hh => hj hh.symm)]
  · rw [List.getElem?_eq_none (by simp [bl_len]; omega), List.getElem?_eq_none (by rw [bl_len]; omega)]
theorem bl_cl (n : Nat) (g : Nat → Bool) (k : Nat) : ∀ el ∈ bl n g, ∀ x ∈ el, x.cl k = true := by
  intro el hel x hx
  obtain ⟨j, _, rfl⟩ := List.mem_map.1 hel
  simp at hx; subst hx; rfl
theorem bl_isD (n : Nat) (g : Nat → Bool) : ∀ el ∈ bl n g, ∀ x ∈ el, x.isD = true := by
  intro el hel x hx
  obtain ⟨j, _, rfl⟩ := List.mem_map.1 hel
  simp at hx; subst hx; rfl
end Go.Abs

