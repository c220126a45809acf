/- Ascending lists of edges with numbers: plain laws. -/
import Derived.Test.YtlmjnmmppffhaaaGoToB
set_option linter.unusedVariables false
set_option linter.unusedSimpArgs false
namespace Go.Abs

abbrev Use := P2 × Int
def uCs (u : Use) : List V := [.i .i64 u.1.x, .i .i64 u.1.y, .i .i64 u.2]
def useV (l : List Use) : V := .l 3 (l.map uCs)
def ascU (l : List Use) : Prop := l.Pairwise fun a b => P2.lt a.1 b.1
/-- The place of an edge: how many come before it. -/
def pl (l : List Use) (e : P2) : Nat := l.countP fun u => decide (P2.lt u.1 e)
theorem pl_le (l : List Use) (e : P2) : pl l e ≤ l.length := List.countP_le_length
theorem pl_spec {e : P2} : ∀ {l : List Use}, ascU l → ∀ {j : Nat} {u : Use}, l[j]? = some u → (P2.lt u.1 e ↔ j < pl l e)
  | [], _, j, u, h => by simp at h
  | x :: r, ha, j, u, h => by
    have hc := List.pairwise_cons.1 ha
    by_cases hx : P2.lt x.1 e
    · have hp : pl (x :: r) e = pl r e + 1 := by simp [pl, List.countP_cons, hx]
      cases j with
      | zero => simp at h; subst h; simp [hp, hx]
      | succ j => simp at h; rw [pl_spec hc.2 h, hp]; omega
    · have h0 : pl r e = 0 := by
        unfold pl
        rw [List.countP_eq_zero]
        intro v hv
        simp only [decide_eq_true_eq]
        exact fun h1 => hx (P2.lt_trans (hc.1 v hv) h1)
      have hp : pl (x :: r) e = 0 := by unfold pl at h0 ⊢; simp [List.countP_cons, hx, h0]
      rw [hp]
      simp only [Nat.not_lt_zero, iff_false]
      cases j with
      | zero => simp at h; subst h; exact hx
      | succ j =>
        simp at h
        rw [pl_spec hc.2 h, h0]; omega
theorem ascU_key {l : List Use} (h : ascU l) {i j : Nat} {e : P2} {n n' : Int} (hi : l[i]? = some (e, n)) (hj : l[j]? = some (e, n')) : i = j := by
  have a := pl_spec (e := e) h hi
  have b := pl_spec (e := e) h hj
  obtain ⟨hi', hi2⟩ := List.getElem?_eq_some_iff.1 hi
  obtain ⟨hj', hj2⟩ := List.getElem?_eq_some_iff.1 hj
  have hpw := List.pairwise_iff_getElem.1 h
  rcases Nat.lt_trichotomy i j with h1 | h1 | h1
  · have := hpw i j hi' hj' h1
    rw [hi2, hj2] at this
    exact absurd this (P2.lt_irrefl e)
  · exact h1
  · have := hpw j i hj' hi' h1
    rw [hi2, hj2] at this
    exact absurd this (P2.lt_irrefl e)
theorem pl_found {l : List Use} (h : ascU l) {j : Nat} {e : P2} {n : Int} (hj : l[j]? = some (e, n)) : pl l e = j := by
  have h1 : ¬ j < pl l e := fun hh => P2.lt_irrefl e ((pl_spec h hj).2 hh)
  have hjl := (List.getElem?_eq_some_iff.1 hj).1
  refine Decidable.byContradiction fun hne => ?_
  have hlt : pl l e < j := by omega
  have h2 : l[pl l e]? = some l[pl l e] := List.getElem?_eq_getElem (by omega)
  have h3 := List.pairwise_iff_getElem.1 h (pl l e) j (by omega) hjl hlt
  obtain ⟨_, hj2⟩ := List.getElem?_eq_some_iff.1 hj
  rw [hj2] at h3
  have : pl l e < pl l e := (pl_spec h h2).1 h3
  omega
/-- The number of an edge, or 0. -/
def numU (l : List Use) (e : P2) : Int := match l[pl l e]? with | some u => if u.1 = e then u.2 else 0 | none => 0
def hasU (l : List Use) (e : P2) : Bool := match l[pl l e]? with | some u => decide (u.1 = e) | none => false
theorem hasU_iff {l : List Use} (h : ascU l) {e : P2} : hasU l e = true ↔ ∃ n, (e, n) ∈ l := by
  unfold hasU
  constructor
  · intro h1
    split at h1
    · rename_i u hu
      simp only [decide_eq_true_eq] at h1
      subst h1
      exact ⟨u.2, List.mem_of_getElem? hu⟩
    · simp at h1
  · rintro ⟨n, hn⟩
    obtain ⟨j, hj⟩ := List.getElem?_of_mem hn
    rw [pl_found h hj, hj]; simp
theorem numU_of {l : List Use} (h : ascU l) {e : P2} {n : Int} (hn : (e, n) ∈ l) : numU l e = n := by
  obtain ⟨j, hj⟩ := List.getElem?_of_mem hn
  unfold numU
  rw [pl_found h hj, hj]; simp
theorem numU_none {l : List Use} {e : P2} (hn : ∀ n, (e, n) ∉ l) : numU l e = 0 := by
  unfold numU
  split
  · rename_i u hu
    split
    · rename_i h1
      subst h1
      exact absurd (List.mem_of_getElem? hu) (hn u.2)
    · rfl
  · rfl
def withU (l : List Use) (e : P2) : List Use := if hasU l e then l else l.take (pl l e) ++ (e, 0) :: l.drop (pl l e)
theorem mem_withU {l : List Use} (h : ascU l) {e : P2} {u : Use} : u ∈ withU l e ↔ u ∈ l ∨ (u = (e, 0) ∧ hasU l e = false) := by
  unfold withU
  cases hh : hasU l e
  · simp only [Bool.false_eq_true, if_false, List.mem_append, List.mem_cons, and_true]
    have : u ∈ l ↔ u ∈ l.take (pl l e) ∨ u ∈ l.drop (pl l e) := by rw [← List.mem_append, List.take_append_drop]
    rw [this]
    constructor
    · rintro (h1 | h1 | h1) <;> simp [h1]
    · rintro ((h1 | h1) | h1) <;> simp [h1]
  · simp
theorem withU_asc {l : List Use} (h : ascU l) (e : P2) : ascU (withU l e) := by
  unfold withU
  cases hh : hasU l e
  · simp only [Bool.false_eq_true, if_false]
    have h' : ascU (l.take (pl l e) ++ l.drop (pl l e)) := by rw [List.take_append_drop]; exact h
    have hp := List.pairwise_append.1 h'
    have hlow : ∀ u ∈ l.take (pl l e), P2.lt u.1 e := by
      intro u hu
      obtain ⟨j, hj⟩ := List.getElem?_of_mem hu
      rw [List.getElem?_take] at hj
      split at hj
      · rename_i hjl
        exact (pl_spec h hj).2 hjl
      · simp at hj
    have hhigh : ∀ u ∈ l.drop (pl l e), P2.lt e u.1 := by
      intro u hu
      obtain ⟨j, hj⟩ := List.getElem?_of_mem hu
      rw [List.getElem?_drop] at hj
      refine Decidable.byContradiction fun hc => ?_
      have h1 : ¬ P2.lt u.1 e := fun h2 => by have := (pl_spec h hj).1 h2; omega
      have h2 : u.1 = e := (P2.lt_total h1 hc)
      have h3 : hasU l e = true := (hasU_iff h).2 ⟨u.2, by rw [← h2]; exact List.mem_of_getElem? hj⟩
      rw [hh] at h3; cases h3
    unfold ascU
    rw [List.pairwise_append]
    refine ⟨hp.1, List.pairwise_cons.2 ⟨hhigh, hp.2.1⟩, fun a ha b hb => ?_⟩
    rcases List.mem_cons.1 hb with rfl | hb
    · exact hlow a ha
    · exact hp.2.2 a ha b hb
  · simpa using h
/-- An edge counted up. -/
def bumpU (l : List Use) (e : P2) : List Use := let w := withU l e; w.set (pl w e) (e, numU w e + 1)
theorem set_asc {l : List Use} (h : ascU l) {j : Nat} {e : P2} {n n' : Int} (hj : l[j]? = some (e, n)) : ascU (l.set j (e, n')) := by
  unfold ascU at h ⊢
  have h1 : ((l.set j (e, n')).map Prod.fst) = l.map Prod.fst := by
    rw [List.map_set]
    apply List.ext_getElem?
    intro i
    by_cases hi : j = i
    · subst hi
      have := (List.getElem?_eq_some_iff.1 hj).1
      rw [List.getElem?_set_self (by simpa using this)]; simp [hj]
    · rw [List.getElem?_set_ne hi]
  have h2 : (l.map Prod.fst).Pairwise P2.lt := by rw [List.pairwise_map]; exact h
  rw [← h1, List.pairwise_map] at h2
  exact h2
/-- The list counts these edges. -/
def Cnt (L : List Use) (E : List P2) : Prop := ascU L ∧ ∀ e n, (e, n) ∈ L ↔ e ∈ E ∧ n = E.count e
theorem Cnt.nil : Cnt [] [] := ⟨by simp [ascU], by simp⟩
theorem Cnt.has {L : List Use} {E : List P2} (h : Cnt L E) (e : P2) : hasU L e = true ↔ e ∈ E := by
  rw [hasU_iff h.1]
  constructor
  · rintro ⟨n, hn⟩; exact ((h.2 e n).1 hn).1
  · intro he; exact ⟨_, (h.2 e _).2 ⟨he, rfl⟩⟩
theorem Cnt.num {L : List Use} {E : List P2} (h : Cnt L E) (e : P2) : numU L e = E.count e := by
  by_cases he : e ∈ E
  · exact numU_of h.1 ((h.2 e _).2 ⟨he, rfl⟩)
  · rw [numU_none fun n hn => he ((h.2 e n).1 hn).1, List.count_eq_zero.2 he]; rfl
theorem withU_get {L : List Use} (h : ascU L) (e : P2) : (withU L e)[pl (withU L e) e]? = some (e, numU (withU L e) e) := by
  have ha := withU_asc h e
  have hm : ∃ n, (e, n) ∈ withU L e := by
    cases hh : hasU L e
    · exact ⟨0, (mem_withU h).2 (.inr ⟨rfl, hh⟩)⟩
    · obtain ⟨n, hn⟩ := (hasU_iff h).1 hh
      exact ⟨n, (mem_withU h).2 (.inl hn)⟩
  obtain ⟨n, hn⟩ := hm
  obtain ⟨j, hj⟩ := List.getElem?_of_mem hn
  rw [numU_of ha hn, pl_found ha hj, hj]
theorem withU_num {L : List Use} {E : List P2} (h : Cnt L E) (e : P2) : numU (withU L e) e = E.count e := by
  have ha := withU_asc h.1 e
  by_cases he : e ∈ E
  · exact numU_of ha ((mem_withU h.1).2 (.inl ((h.2 e _).2 ⟨he, rfl⟩)))
  · have hh : hasU L e = false := by rw [Bool.eq_false_iff]; exact fun h1 => he ((h.has e).1 h1)
    rw [numU_of ha ((mem_withU h.1).2 (.inr ⟨rfl, hh⟩)), List.count_eq_zero.2 he]; rfl
theorem Cnt.bump {L : List Use} {E : List P2} (h : Cnt L E) (e : P2) : Cnt (bumpU L e) (E ++ [e]) := by
  have hg := withU_get h.1 e
  have ha := withU_asc h.1 e
  have hn := withU_num h e
  refine ⟨set_asc ha hg, fun e' n => ?_⟩
  unfold bumpU
  simp only
  generalize hW : withU L e = W at *
  generalize hj : pl W e = j at *
  have hjl := (List.getElem?_eq_some_iff.1 hg).1
  have hmem : (e', n) ∈ W.set j (e, numU W e + 1) ↔ (e' = e ∧ n = numU W e + 1) ∨ (e' ≠ e ∧ (e', n) ∈ W) := by
    constructor
    · intro hm
      obtain ⟨i, hi⟩ := List.getElem?_of_mem hm
      by_cases hij : j = i
      · subst hij
        rw [List.getElem?_set_self hjl] at hi
        simp only [Option.some.injEq, Prod.mk.injEq] at hi
        exact .inl ⟨hi.1.symm, hi.2.symm⟩
      · rw [List.getElem?_set_ne hij] at hi
        refine .inr ⟨?_, List.mem_of_getElem? hi⟩
        rintro rfl
        exact hij (ascU_key ha hg hi)
    · rintro (⟨rfl, rfl⟩ | ⟨h1, h2⟩)
      · exact List.mem_of_getElem? (i := j) (by rw [List.getElem?_set_self hjl])
      · obtain ⟨i, hi⟩ := List.getElem?_of_mem h2
        have hij : ¬ j = i := by
          rintro rfl
          rw [hg] at hi
          simp at hi
          exact h1 hi.1.symm
        exact List.mem_of_getElem? (i := i) (by rw [List.getElem?_set_ne hij]; exact hi)
  rw [hmem, hn, List.count_append, List.mem_append, List.mem_singleton]
  by_cases he : e' = e
  · subst he
    simp
  · have h1 : (e', n) ∈ W ↔ e' ∈ E ∧ n = E.count e' := by
      rw [← hW, mem_withU h.1, h.2]
      constructor
      · rintro (h2 | h2)
        · exact h2
        · simp at h2; exact absurd h2.1.1 he
      · exact .inl
    have h2 : ¬ e = e' := fun h => he h.symm
    simp [he, h1, h2, List.count_singleton]
theorem Cnt.keys {L : List Use} {E : List P2} (h : Cnt L E) {i : Nat} {u : Use} (hu : L[i]? = some u) : u.1 ∈ E ∧ u.2 = E.count u.1 := (h.2 u.1 u.2).1 (List.mem_of_getElem? hu)
theorem nodupP_len : ∀ {l k : List P2}, l.Nodup → (∀ a ∈ l, a ∈ k) → l.length ≤ k.length
  | [], k, _, _ => by simp
  | x :: l, k, hn, hs => by
    have hc := List.nodup_cons.1 hn
    have hx := hs x (by simp)
    have := nodupP_len (l := l) (k := k.erase x) hc.2 (fun a ha => by
      have hne : a ≠ x := by rintro rfl; exact hc.1 ha
      exact (List.mem_erase_of_ne hne).2 (hs a (by simp [ha])))
    rw [List.length_erase_of_mem hx] at this
    have := List.length_pos_of_mem hx
    simp only [List.length_cons]; omega
theorem Cnt.nodup {L : List Use} {E : List P2} (h : Cnt L E) : (L.map Prod.fst).Nodup := by
  show List.Pairwise _ _
  rw [List.pairwise_map]
  exact h.1.imp fun h1 h2 => by rw [h2] at h1; exact P2.lt_irrefl _ h1
theorem Cnt.len {L : List Use} {E : List P2} (h : Cnt L E) : L.length ≤ E.length := by
  have := nodupP_len h.nodup (k := E) fun e he => by
    obtain ⟨u, hu, rfl⟩ := List.mem_map.1 he
    exact ((h.2 u.1 u.2).1 hu).1
  simpa using this
end Go.Abs

