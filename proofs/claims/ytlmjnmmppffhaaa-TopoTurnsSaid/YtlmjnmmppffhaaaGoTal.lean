/- Counting edges: plain laws. -/
import Derived.Test.YtlmjnmmppffhaaaGoOriD
set_option linter.unusedVariables false
set_option linter.unusedSimpArgs false
namespace Go.Abs

theorem rev_ind {α : Type} {p : List α → Prop} (h0 : p []) (h1 : ∀ E x, p E → p (E ++ [x])) (E : List α) : p E := by
  rw [← E.reverse_reverse]
  induction E.reverse with
  | nil => exact h0
  | cons x l ih => rw [List.reverse_cons]; exact h1 _ _ ih

def addE (L : List (P2 × Int)) (e : P2) : List (P2 × Int) :=
  match fnd e L with
  | some (i, n) => L.set i (e, n + 1)
  | none => L ++ [(e, 1)]
def tally (E : List P2) : List (P2 × Int) := E.foldl addE []
theorem tally_nil : tally [] = [] := rfl
theorem tally_snoc (E : List P2) (e : P2) : tally (E ++ [e]) = addE (tally E) e := by simp [tally]
def val (e : P2) (L : List (P2 × Int)) : Int := match fnd e L with | some (_, n) => n | none => 0

theorem fnd_set_ne {e e' : P2} (hne : e' ≠ e) {n' : Int} : ∀ {L : List (P2 × Int)} {i : Nat} {n : Int}, fnd e L = some (i, n) → fnd e' (L.set i (e, n')) = fnd e' L
  | [], i, n, h => by simp [fnd] at h
  | (k, m) :: r, i, n, h => by
    simp only [fnd] at h
    by_cases hk : e = k
    · simp [hk] at h
      obtain ⟨rfl, rfl⟩ := h
      subst hk
      simp [fnd, hne]
    · simp only [hk, if_false, Option.map_eq_some_iff, Prod.mk.injEq] at h
      obtain ⟨⟨j, n1⟩, hj, rfl, rfl⟩ := h
      have := fnd_set_ne (n' := n') hne hj
      simp only [List.set_cons_succ, fnd, this]
theorem fnd_app_ne {e e' : P2} (hne : e' ≠ e) {n : Int} : ∀ {L : List (P2 × Int)}, fnd e' (L ++ [(e, n)]) = fnd e' L
  | [] => by simp [fnd, hne]
  | (k, m) :: r => by
    simp only [List.cons_append, fnd, fnd_app_ne hne]

theorem val_addE (L : List (P2 × Int)) (e e' : P2) : val e' (addE L e) = val e' L + if e' = e then 1 else 0 := by
  unfold addE
  cases h : fnd e L with
  | none =>
    simp only
    by_cases he : e' = e
    · subst he
      simp only [val, fnd_app h, h, if_true]; omega
    · simp only [val, fnd_app_ne he, he, if_false]; omega
  | some p =>
    obtain ⟨i, n⟩ := p
    simp only
    by_cases he : e' = e
    · subst he
      simp only [val, (fnd_set (n' := n + 1) h).2, h, if_true]
    · simp only [val, fnd_set_ne he h, he, if_false]; omega

theorem val_tally (E : List P2) (e : P2) : val e (tally E) = E.count e := by
  refine rev_ind (p := fun E => val e (tally E) = E.count e) ?_ ?_ E
  · rfl
  · intro E x ih
    rw [tally_snoc, val_addE, ih, List.count_append, List.count_singleton]
    by_cases h : e = x
    · subst h; simp
    · have : ¬ x = e := fun hh => h hh.symm
      simp [h, this]

theorem keys_set {L : List (P2 × Int)} {i : Nat} {e : P2} {n n' : Int} (h : L[i]? = some (e, n)) : (L.set i (e, n')).map Prod.fst = L.map Prod.fst := by
  rw [List.map_set]
  apply List.ext_getElem?
  intro j
  by_cases hj : i = j
  · subst hj
    have := (List.getElem?_eq_some_iff.1 h).1
    rw [List.getElem?_set_self (by simpa using this)]
    simp [h]
  · rw [List.getElem?_set_ne hj]
theorem keys_addE (L : List (P2 × Int)) (e : P2) : (addE L e).map Prod.fst = if (fnd e L).isSome then L.map Prod.fst else L.map Prod.fst ++ [e] := by
  unfold addE
  cases h : fnd e L with
  | none => simp
  | some p =>
    obtain ⟨i, n⟩ := p
    simp only [Option.isSome_some, if_true]
    exact keys_set (fnd_set (n' := n) h).1
theorem fnd_keys {e : P2} {L : List (P2 × Int)} : fnd e L = none ↔ e ∉ L.map Prod.fst := by
  rw [fnd_none]
  constructor
  · rintro h hm
    obtain ⟨p, hp, rfl⟩ := List.mem_map.1 hm
    exact h p hp rfl
  · rintro h p hp rfl
    exact h (List.mem_map_of_mem hp)
theorem tally_keys (E : List P2) : ((tally E).map Prod.fst).Nodup ∧ ∀ e, e ∈ (tally E).map Prod.fst ↔ e ∈ E := by
  refine rev_ind (p := fun E => ((tally E).map Prod.fst).Nodup ∧ ∀ e, e ∈ (tally E).map Prod.fst ↔ e ∈ E) ?_ ?_ E
  · simp [tally]
  · intro E x ih
    rw [tally_snoc, keys_addE]
    cases h : fnd x (tally E) with
    | none =>
      have h' := fnd_keys.1 h
      simp only [Option.isSome_none, Bool.false_eq_true, if_false]
      refine ⟨?_, fun e => ?_⟩
      · rw [List.nodup_append]
        exact ⟨ih.1, by simp, fun a ha b hb => by simp at hb; subst hb; rintro rfl; exact h' ha⟩
      · rw [List.mem_append, ih.2, List.mem_append]
    | some p =>
      have h' : x ∈ (tally E).map Prod.fst := Decidable.byContradiction fun hh => by rw [fnd_keys.2 hh] at h; simp at h
      simp only [Option.isSome_some, if_true]
      refine ⟨ih.1, fun e => ?_⟩
      rw [ih.2, List.mem_append]
      constructor
      · exact .inl
      · rintro (h2 | h2)
        · exact h2
        · simp at h2; subst h2; exact (ih.2 e).1 h'
theorem fnd_of_get : ∀ {L : List (P2 × Int)} {i : Nat} {e : P2} {n : Int}, (L.map Prod.fst).Nodup → L[i]? = some (e, n) → fnd e L = some (i, n)
  | [], i, e, n, _, h => by simp at h
  | (k, m) :: r, 0, e, n, _, h => by simp at h; obtain ⟨rfl, rfl⟩ := h; simp [fnd]
  | (k, m) :: r, i + 1, e, n, hn, h => by
    simp only [List.map_cons, List.nodup_cons] at hn
    simp only [List.getElem?_cons_succ] at h
    have hk : ¬ e = k := by
      rintro rfl
      exact hn.1 (List.mem_map.2 ⟨(e, n), List.mem_of_getElem? h, rfl⟩)
    simp [fnd, hk, fnd_of_get hn.2 h]
theorem tally_get {E : List P2} {i : Nat} {e : P2} {n : Int} (h : (tally E)[i]? = some (e, n)) : e ∈ E ∧ n = E.count e := by
  have hk := tally_keys E
  refine ⟨(hk.2 e).1 (List.mem_map.2 ⟨(e, n), List.mem_of_getElem? h, rfl⟩), ?_⟩
  have := val_tally E e
  rw [val, fnd_of_get hk.1 h] at this
  exact this
theorem tally_of {E : List P2} {e : P2} (h : e ∈ E) : ∃ i : Nat, (tally E)[i]? = some (e, (E.count e : Int)) := by
  obtain ⟨p, hp, rfl⟩ := List.mem_map.1 (((tally_keys E).2 e).2 h)
  obtain ⟨i, hi⟩ := List.getElem?_of_mem hp
  refine ⟨i, ?_⟩
  rw [hi]
  have := (tally_get (e := p.1) (n := p.2) hi).2
  rw [← this]

/-- The next of the entries not yet seen: how many are left. -/
def left (n : Nat) (seen : List Nat) : Nat := ((List.range n).filter fun i => !seen.contains i).length
theorem left_lt {n i : Nat} {seen : List Nat} (hi : i < n) (hs : i ∉ seen) : left n (seen ++ [i]) < left n seen := by
  have h : (List.range n).filter (fun j => !(seen ++ [i]).contains j) = ((List.range n).filter fun j => !seen.contains j).filter (fun j => !(j == i)) := by
    rw [List.filter_filter]
    congr 1
    funext j
    by_cases h1 : j ∈ seen <;> by_cases h2 : j = i <;> simp [h1, h2]
  unfold left
  rw [h, List.length_filter_lt_length_iff_exists]
  exact ⟨i, by simp [hi, hs], by simp⟩

/-- The order of edges. -/
def P2.lt (a b : P2) : Prop := a.x < b.x ∨ (a.x = b.x ∧ a.y < b.y)
instance (a b : P2) : Decidable (P2.lt a b) := by unfold P2.lt; infer_instance
theorem P2.lt_irrefl (a : P2) : ¬ P2.lt a a := by unfold P2.lt; omega
theorem P2.lt_trans {a b c : P2} (h1 : P2.lt a b) (h2 : P2.lt b c) : P2.lt a c := by unfold P2.lt at *; omega
theorem P2.lt_total {a b : P2} (h : ¬ P2.lt a b) (h' : ¬ P2.lt b a) : a = b := by
  unfold P2.lt at *
  have h1 : a.x = b.x := by omega
  have h2 : a.y = b.y := by omega
  cases a; cases b; simp_all
theorem P2.lt_asymm {a b : P2} (h1 : P2.lt a b) : ¬ P2.lt b a := by unfold P2.lt at *; omega

def asc (l : List P2) : Prop := l.Pairwise P2.lt
theorem asc_ext : ∀ {l1 l2 : List P2}, asc l1 → asc l2 → (∀ a, a ∈ l1 ↔ a ∈ l2) → l1 = l2
  | [], [], _, _, _ => rfl
  | [], y :: l2, _, _, h => by have := (h y).2 (by simp); simp at this
  | x :: l1, [], _, _, h => by have := (h x).1 (by simp); simp at this
  | x :: l1, y :: l2, h1, h2, h => by
    have p1 := List.pairwise_cons.1 h1
    have p2 := List.pairwise_cons.1 h2
    have hxy : x = y := by
      rcases List.mem_cons.1 ((h x).1 (by simp)) with h3 | h3
      · exact h3
      · rcases List.mem_cons.1 ((h y).2 (by simp)) with h4 | h4
        · exact h4.symm
        · exact absurd (p2.1 x h3) (P2.lt_asymm (p1.1 y h4))
    subst hxy
    rw [asc_ext p1.2 p2.2 fun a => ?_]
    constructor
    · intro ha
      rcases List.mem_cons.1 ((h a).1 (by simp [ha])) with h3 | h3
      · subst h3; exact absurd (p1.1 a ha) (P2.lt_irrefl a)
      · exact h3
    · intro ha
      rcases List.mem_cons.1 ((h a).2 (by simp [ha])) with h3 | h3
      · subst h3; exact absurd (p2.1 a ha) (P2.lt_irrefl a)
      · exact h3

/-- The ascending list with the members of a list. -/
def insP (e : P2) : List P2 → List P2
  | [] => [e]
  | x :: l => if e = x then x :: l else if P2.lt e x then e :: x :: l else x :: insP e l
theorem mem_insP {e a : P2} : ∀ {l : List P2}, a ∈ insP e l ↔ a = e ∨ a ∈ l
  | [] => by simp [insP]
  | x :: l => by
    simp only [insP]
    split
    · rename_i h; subst h; simp
    · split
      · simp
      · simp [mem_insP]; constructor <;> (rintro (h | h | h) <;> simp [h])
theorem insP_asc {e : P2} : ∀ {l : List P2}, asc l → asc (insP e l)
  | [], _ => by simp [insP, asc]
  | x :: l, h => by
    have hc := List.pairwise_cons.1 h
    simp only [insP]
    split
    · exact h
    · split
      · rename_i h1 h2
        refine List.pairwise_cons.2 ⟨fun b hb => ?_, h⟩
        rcases List.mem_cons.1 hb with rfl | hb
        · exact h2
        · exact P2.lt_trans h2 (hc.1 b hb)
      · rename_i h1 h2
        refine List.pairwise_cons.2 ⟨fun b hb => ?_, insP_asc hc.2⟩
        rcases mem_insP.1 hb with rfl | hb
        · exact Decidable.byContradiction fun h3 => h1 (P2.lt_total h2 h3)
        · exact hc.1 b hb
def ascOf (l : List P2) : List P2 := l.foldr insP []
theorem ascOf_asc (l : List P2) : asc (ascOf l) := by
  induction l with
  | nil => simp [ascOf, asc]
  | cons x l ih => exact insP_asc ih
theorem mem_ascOf {l : List P2} {a : P2} : a ∈ ascOf l ↔ a ∈ l := by
  induction l with
  | nil => simp [ascOf]
  | cons x l ih => simp only [ascOf, List.foldr_cons, mem_insP, List.mem_cons]; rw [← ih]; rfl
theorem asc_of_perm {ys xs : List P2} (hp : ys.Perm xs) (hn : xs.Nodup) (hs : ys.Pairwise fun a b => ¬ P2.lt b a) : ys = ascOf xs := by
  refine asc_ext ?_ (ascOf_asc xs) fun a => by rw [hp.mem_iff, mem_ascOf]
  have hn' : ys.Nodup := hp.symm.nodup hn
  exact (List.Pairwise.and hs hn').imp fun h => Decidable.byContradiction fun h3 => h.2 (P2.lt_total h3 h.1)
end Go.Abs

