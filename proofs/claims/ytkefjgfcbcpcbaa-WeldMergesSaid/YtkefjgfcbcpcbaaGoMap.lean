/- Maps from pairs of numbers to numbers, by their entries. -/
import Derived.Test.YtkefjgfcbcpcbaaGoShpA
set_option linter.unusedVariables false
set_option linter.unusedSimpArgs false
namespace Go.Abs

theorem entsOf_mp (h : List O) (id : Nat) : entsOf h (.mp id) = match h[id]? with | some (.mp es) => some es | _ => none := _root_.id rfl
attribute [go_sem] entsOf_mp V.isT

def asE (p : P2 × Int) : V × V := (p.1.enc, .i .i64 p.2)
def fnd (e : P2) : List (P2 × Int) → Option (Nat × Int)
  | [] => none
  | (k, n) :: r => if e = k then some (0, n) else (fnd e r).map fun p => (p.1 + 1, p.2)

theorem veq2 (a b : P2) : veqL [1, 1] a.enc.cells b.enc.cells = some (decide (a = b)) := by
  cases a; cases b
  simp [veqL, P2.enc, P2.cs, V.cells, sceq, P2.mk.injEq]
  rw [Bool.eq_iff_iff]; simp

theorem findE_as (e : P2) : ∀ L : List (P2 × Int), findE [1, 1] e.enc (L.map asE) = some ((fnd e L).map fun p => (p.1, .i .i64 p.2))
  | [] => rfl
  | (k, n) :: r => by
    simp only [List.map_cons, asE, findE, fnd]
    rw [if_pos (by rfl), veq2]
    by_cases h : e = k
    · simp [h]
    · simp only [h, decide_false, if_false]
      have := findE_as e r
      rw [this]
      cases fnd e r <;> rfl

theorem fnd_none {e : P2} : ∀ {L : List (P2 × Int)}, fnd e L = none ↔ ∀ p ∈ L, p.1 ≠ e
  | [] => by simp [fnd]
  | (k, n) :: r => by
    simp only [fnd]
    by_cases h : e = k
    · simp [h]
    · have h' : ¬ k = e := fun hh => h hh.symm
      rw [if_neg h, Option.map_eq_none_iff, fnd_none (L := r)]
      simp [h']
theorem fnd_app {e : P2} {n : Int} : ∀ {L : List (P2 × Int)}, fnd e L = none → fnd e (L ++ [(e, n)]) = some (L.length, n)
  | [], _ => by simp [fnd]
  | (k, m) :: r, h => by
    simp only [fnd] at h
    by_cases hk : e = k
    · simp [hk] at h
    · simp only [hk, if_false, Option.map_eq_none_iff] at h
      simp [fnd, hk, fnd_app h]
theorem fnd_set {e : P2} {i : Nat} {n n' : Int} : ∀ {L : List (P2 × Int)}, fnd e L = some (i, n) → L[i]? = some (e, n) ∧ fnd e (L.set i (e, n')) = some (i, n')
  | [], h => by simp [fnd] at h
  | (k, m) :: r, h => by
    simp only [fnd] at h
    by_cases hk : e = k
    · simp [hk] at h; obtain ⟨rfl, rfl⟩ := h; simp [fnd, hk]
    · simp only [hk, if_false, Option.map_eq_some_iff, Prod.mk.injEq] at h
      obtain ⟨⟨j, n1⟩, hj, rfl, rfl⟩ := h
      have := fnd_set (n' := n') hj
      simp [fnd, hk, this.1, this.2]
end Go.Abs

