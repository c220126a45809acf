/- Ascending lists: plain laws. -/
import Derived.Test.YtkefjgfcbcpcbaaGoMeshC
set_option linter.unusedVariables false
set_option linter.unusedSimpArgs false
namespace Go.Abs

structure LtOrd {α : Type} (lt : α → α → Prop) : Prop where
  irr : ∀ a, ¬ lt a a
  tr : ∀ {a b c}, lt a b → lt b c → lt a c
  tot : ∀ {a b}, ¬ lt a b → ¬ lt b a → a = b

section
variable {α : Type} {lt : α → α → Prop} (O : LtOrd lt)
include O
theorem LtOrd.asymm {a b : α} (h1 : lt a b) : ¬ lt b a := fun h2 => O.irr a (O.tr h1 h2)
theorem ascG_ext : ∀ {l1 l2 : List α}, l1.Pairwise lt → l2.Pairwise lt → (∀ a, a ∈ l1 ↔ a ∈ l2) → l1 = l2
  | [], [], _, _, _ => rfl
  | [], y :: l2, _, _, h => by have := (h y).2 (by simp); simp at this
  | x :: l1, [], _, _, h => by have := (h x).1 (by simp); simp at this
  | x :: l1, y :: l2, h1, h2, h => by
    have p1 := List.pairwise_cons.1 h1
    have p2 := List.pairwise_cons.1 h2
    have hxy : x = y := by
      rcases List.mem_cons.1 ((h x).1 (by simp)) with h3 | h3
      · exact h3
      · rcases List.mem_cons.1 ((h y).2 (by simp)) with h4 | h4
        · exact h4.symm
        · exact absurd (p2.1 x h3) (O.asymm (p1.1 y h4))
    subst hxy
    rw [ascG_ext p1.2 p2.2 fun a => ?_]
    constructor
    · intro ha
      rcases List.mem_cons.1 ((h a).1 (by simp [ha])) with h3 | h3
      · subst h3; exact absurd (p1.1 a ha) (O.irr a)
      · exact h3
    · intro ha
      rcases List.mem_cons.1 ((h a).2 (by simp [ha])) with h3 | h3
      · subst h3; exact absurd (p2.1 a ha) (O.irr a)
      · exact h3
theorem ascG_nodup {l : List α} (h : l.Pairwise lt) : l.Nodup := h.imp fun h1 h2 => by subst h2; exact O.irr _ h1
theorem ascG_of_sorted {ys : List α} (hs : ys.Pairwise fun a b => ¬ lt b a) (hn : ys.Nodup) : ys.Pairwise lt :=
  (List.Pairwise.and hs hn).imp fun h => Classical.byContradiction fun h3 => h.2 (O.tot h3 h.1)
end

section
variable {α : Type} [DecidableEq α] {lt : α → α → Prop} [DecidableRel lt]
/-- A member put where it belongs. -/
def insG (lt : α → α → Prop) [DecidableRel lt] (e : α) : List α → List α
  | [] => [e]
  | x :: l => if e = x then x :: l else if lt e x then e :: x :: l else x :: insG lt e l
def ascG (lt : α → α → Prop) [DecidableRel lt] (l : List α) : List α := l.foldr (insG lt) []
theorem mem_insG {e a : α} : ∀ {l : List α}, a ∈ insG lt e l ↔ a = e ∨ a ∈ l
  | [] => by simp [insG]
  | x :: l => by
    simp only [insG]
    split
    · rename_i h; subst h; simp
    · split
      · simp
      · simp [mem_insG]; constructor <;> (rintro (h | h | h) <;> simp [h])
theorem insG_asc (O : LtOrd lt) {e : α} : ∀ {l : List α}, l.Pairwise lt → (insG lt e l).Pairwise lt
  | [], _ => by simp [insG]
  | x :: l, h => by
    have hc := List.pairwise_cons.1 h
    simp only [insG]
    split
    · exact h
    · split
      · rename_i h1 h2
        refine List.pairwise_cons.2 ⟨fun b hb => ?_, h⟩
        rcases List.mem_cons.1 hb with rfl | hb
        · exact h2
        · exact O.tr h2 (hc.1 b hb)
      · rename_i h1 h2
        refine List.pairwise_cons.2 ⟨fun b hb => ?_, insG_asc O hc.2⟩
        rcases mem_insG.1 hb with rfl | hb
        · exact Decidable.byContradiction fun h3 => h1 (O.tot h2 h3)
        · exact hc.1 b hb
theorem ascG_asc (O : LtOrd lt) (l : List α) : (ascG lt l).Pairwise lt := by
  induction l with
  | nil => simp [ascG]
  | cons x l ih => exact insG_asc O ih
theorem mem_ascG {l : List α} {a : α} : a ∈ ascG lt l ↔ a ∈ l := by
  induction l with
  | nil => simp [ascG]
  | cons x l ih => simp only [ascG, List.foldr_cons, mem_insG, List.mem_cons]; rw [← ih]; rfl
theorem ascG_of_perm (O : LtOrd lt) {ys xs : List α} (hp : ys.Perm xs) (hn : xs.Nodup) (hs : ys.Pairwise fun a b => ¬ lt b a) : ys = ascG lt xs := by
  refine ascG_ext O (ascG_of_sorted O hs (hp.symm.nodup hn)) (ascG_asc O xs) fun a => by rw [hp.mem_iff, mem_ascG]
end

/-- The order of points. -/
def V3.lt (a b : V3) : Prop := a.x < b.x ∨ (a.x = b.x ∧ (a.y < b.y ∨ (a.y = b.y ∧ a.z < b.z)))
instance : DecidableRel V3.lt := fun a b => by unfold V3.lt; infer_instance
theorem V3.ltO : LtOrd V3.lt where
  irr a := by unfold V3.lt; omega
  tr h1 h2 := by unfold V3.lt at *; omega
  tot {a b} h h' := by
    unfold V3.lt at *
    have h1 : a.x = b.x := by omega
    have h2 : a.y = b.y := by omega
    have h3 : a.z = b.z := by omega
    cases a; cases b; simp_all
end Go.Abs

