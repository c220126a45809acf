/- Loops of boundaries: plain laws. -/
import Derived.Test.YtlmjnmmppffhaaaGoTpE
set_option linter.unusedVariables false
set_option linter.unusedSimpArgs false
namespace Go.Abs

theorem P2.rev2 (e : P2) : e.rev.rev = e := rfl
theorem rev_inj {a b : P2} (h : a.rev = b.rev) : a = b := by rw [← P2.rev2 a, ← P2.rev2 b, h]
theorem count_rev (E : List P2) (e : P2) : (E.map P2.rev).count e = E.count e.rev := by
  induction E with
  | nil => rfl
  | cons a E ih =>
    rw [List.map_cons, List.count_cons, List.count_cons, ih]
    have : (a.rev == e) = (a == e.rev) := by
      rw [Bool.eq_iff_iff, beq_iff_eq, beq_iff_eq]
      constructor
      · rintro rfl; rfl
      · rintro rfl; rfl
    rw [this]
/-- As many edges leave a vertex as come to it. -/
theorem edgesOf_bal (t : T3) (v : Int) : (edgesOf t).countP (fun e => decide (e.x = v)) = (edgesOf t).countP (fun e => decide (e.y = v)) := by
  have e3 : edgesOf t = (edges3 t).filter fun e => decide (e.x ≠ e.y) := rfl
  rw [e3, List.countP_filter, List.countP_filter]
  unfold edges3
  simp only [List.countP_cons, List.countP_nil, Bool.and_eq_true, decide_eq_true_eq, Nat.zero_add, ne_eq]
  by_cases q1 : t.a = v <;> by_cases q2 : t.b = v <;> by_cases q3 : t.c = v <;> simp [q1, q2, q3] <;> (repeat' split) <;> omega
theorem alluses_bal (l : List T3) (v : Int) : (alluses l).countP (fun e => decide (e.x = v)) = (alluses l).countP (fun e => decide (e.y = v)) := by
  induction l with
  | nil => rfl
  | cons t l ih =>
    have : alluses (t :: l) = edgesOf t ++ alluses l := by simp [alluses]
    rw [this, List.countP_append, List.countP_append, ih, edgesOf_bal]

def okAt (m : Mesh) (l : List P2) (i : Nat) : Bool := match l[i]? with
  | some e => decide (m.use e = 1) && (decide (m.use e.rev = 0) && !(decide (0 < i) && decide (((l[i - 1]?).getD ⟨0, 0⟩).x = e.x)))
  | none => true
def Mesh.simple (m : Mesh) (l : List P2) : Bool := (List.range l.length).all (okAt m l)
theorem simple_get {m : Mesh} {l : List P2} (h : m.simple l = true) {i : Nat} {e : P2} (he : l[i]? = some e) : m.use e = 1 ∧ m.use e.rev = 0 ∧ (0 < i → ((l[i - 1]?).getD ⟨0, 0⟩).x ≠ e.x) := by
  have hlt := (List.getElem?_eq_some_iff.1 he).1
  have := List.all_eq_true.1 h i (List.mem_range.2 hlt)
  unfold okAt at this
  rw [he] at this
  simp at this
  refine ⟨this.1, this.2.1, fun hi => ?_⟩
  rcases this.2.2 with h0 | h0
  · omega
  · exact h0
theorem simple_xlt {m : Mesh} {l : List P2} (h : m.simple l = true) (ha : asc l) : ∀ (j i : Nat) (a b : P2), i < j → l[i]? = some a → l[j]? = some b → a.x < b.x
  | 0, i, a, b, hij, _, _ => by omega
  | j + 1, i, a, b, hij, h1, h2 => by
    have hlt := (List.getElem?_eq_some_iff.1 h2).1
    have hj : l[j]? = some l[j] := List.getElem?_eq_getElem (by omega)
    obtain ⟨hi', h1'⟩ := List.getElem?_eq_some_iff.1 h1
    obtain ⟨hj', h2'⟩ := List.getElem?_eq_some_iff.1 h2
    have hs := (simple_get h h2).2.2 (by omega)
    rw [Nat.add_sub_cancel, hj] at hs
    simp only [Option.getD_some] at hs
    have hp := List.pairwise_iff_getElem.1 ha j (j + 1) (by omega) hj' (by omega)
    rw [h2'] at hp
    have hlt2 : l[j].x < b.x := by unfold P2.lt at hp; omega
    by_cases hij2 : i = j
    · subst hij2
      rw [hj] at h1
      obtain rfl := Option.some.inj h1
      exact hlt2
    · have := simple_xlt h ha j i a l[j] (by omega) h1 hj
      omega
theorem simple_xnd {m : Mesh} {l : List P2} (h : m.simple l = true) (ha : asc l) : (l.map P2.x).Nodup := by
  rw [List.nodup_iff_pairwise_ne, List.pairwise_map, List.pairwise_iff_getElem]
  intro i j hi hj hij he
  have := simple_xlt h ha j i _ _ hij (List.getElem?_eq_getElem hi) (List.getElem?_eq_getElem hj)
  omega
theorem nodup_countP_le {α : Type} {l : List α} {f : α → Int} (h : (l.map f).Nodup) (v : Int) : l.countP (fun e => decide (f e = v)) ≤ 1 := by
  induction l with
  | nil => simp
  | cons a l ih =>
    simp only [List.map_cons, List.nodup_cons] at h
    rw [List.countP_cons]
    have := ih h.2
    by_cases hv : f a = v
    · have h0 : l.countP (fun e => decide (f e = v)) = 0 := by
        rw [List.countP_eq_zero]
        intro b hb
        simp only [decide_eq_true_eq]
        intro hbv
        exact h.1 (List.mem_map.2 ⟨b, hb, by rw [hbv, hv]⟩)
      rw [h0]; simp [hv]
    · simp [hv]; omega
theorem nodup_of_countP {α : Type} {f : α → Int} : ∀ {l : List α}, (∀ v, l.countP (fun e => decide (f e = v)) ≤ 1) → (l.map f).Nodup
  | [], _ => by simp
  | a :: l, h => by
    rw [List.map_cons, List.nodup_cons]
    refine ⟨fun hm => ?_, nodup_of_countP fun v => ?_⟩
    · obtain ⟨b, hb, hba⟩ := List.mem_map.1 hm
      have h1 := h (f a)
      rw [List.countP_cons] at h1
      have : 0 < l.countP (fun e => decide (f e = f a)) := List.countP_pos_iff.2 ⟨b, hb, by simp [hba]⟩
      simp only [decide_true, if_true] at h1; omega
    · have h1 := h v
      rw [List.countP_cons] at h1
      split at h1 <;> omega
/-- At each vertex as many boundary edges begin as end. -/
theorem border_bal {m : Mesh} (hz : m.check = 0) (h : m.simple m.border = true) (v : Int) : m.border.countP (fun e => decide (e.x = v)) = m.border.countP (fun e => decide (e.y = v)) := by
  have hn : m.border.Nodup := (border_asc m).imp fun h1 h2 => by subst h2; exact P2.lt_irrefl _ h1
  have hu : ∀ e, m.use e = (alluses m.tris).count e := fun e => by simp [Mesh.use, hz]
  have hcnt : ∀ e, m.border.count e = if e ∈ m.border then 1 else 0 := fun e => by
    by_cases he : e ∈ m.border
    · rw [if_pos he]
      have h1 := List.count_pos_iff.2 he
      have h2 := List.nodup_iff_count.1 hn e
      omega
    · rw [if_neg he]; exact List.count_eq_zero.2 he
  have hone : ∀ e, e ∈ m.border → (alluses m.tris).count e = 1 ∧ (alluses m.tris).count e.rev = 0 := fun e he => by
    obtain ⟨i, hi⟩ := List.getElem?_of_mem he
    have := simple_get h hi
    rw [hu, hu] at this
    omega
  have hperm : (alluses m.tris ++ m.border.map P2.rev).Perm ((alluses m.tris).map P2.rev ++ m.border) := by
    rw [List.perm_iff_count]
    intro e
    rw [List.count_append, List.count_append, count_rev, count_rev, hcnt, hcnt]
    by_cases h1 : e ∈ m.border
    · have g1 := hone e h1
      have h2 : e.rev ∉ m.border := fun h2 => by have := hone _ h2; rw [P2.rev2] at this; omega
      rw [if_pos h1, if_neg h2]; omega
    · by_cases h2 : e.rev ∈ m.border
      · have g2 := hone _ h2
        rw [P2.rev2] at g2
        rw [if_neg h1, if_pos h2]; omega
      · rw [if_neg h1, if_neg h2]
        have p1 : 0 ≤ m.use e := by rw [hu]; omega
        have p2 : 0 ≤ m.use e.rev := by rw [hu]; omega
        have k1 : ¬ (m.use e.rev < m.use e) := fun hlt => h1 (mem_border.2 ⟨hz, (use_pos hz).2 (by omega), hlt⟩)
        have k2 : ¬ (m.use e < m.use e.rev) := fun hlt => h2 (mem_border.2 ⟨hz, (use_pos hz).2 (by omega), by rw [P2.rev2]; exact hlt⟩)
        rw [hu, hu] at k1 k2
        omega
  have hc := hperm.countP_eq (fun e => decide (e.x = v))
  rw [List.countP_append, List.countP_append, List.countP_map, List.countP_map] at hc
  have e1 : ((fun e => decide (e.x = v)) ∘ P2.rev) = fun e : P2 => decide (e.y = v) := rfl
  rw [e1] at hc
  have := alluses_bal m.tris v
  omega
theorem border_ynd {m : Mesh} (hz : m.check = 0) (h : m.simple m.border = true) : (m.border.map P2.y).Nodup := by
  refine nodup_of_countP fun v => ?_
  rw [← border_bal hz h]
  exact nodup_countP_le (simple_xnd h (border_asc m)) v
theorem border_xy {m : Mesh} (hz : m.check = 0) (h : m.simple m.border = true) (v : Int) : v ∈ m.border.map P2.x ↔ v ∈ m.border.map P2.y := by
  have hb := border_bal hz h v
  have k : ∀ f : P2 → Int, v ∈ m.border.map f ↔ 0 < m.border.countP (fun e => decide (f e = v)) := fun f => by
    rw [List.mem_map, List.countP_pos_iff]; simp
  rw [k, k, hb]

/-- Where the boundary edge to a vertex begins. -/
def nxt (l : List P2) (v : Int) : Int := match l.find? (fun e => decide (e.y = v)) with | some e => e.x | none => v
theorem nxt_of {l : List P2} (hy : (l.map P2.y).Nodup) {e : P2} (he : e ∈ l) : nxt l e.y = e.x := by
  unfold nxt
  cases hf : l.find? (fun a => decide (a.y = e.y)) with
  | none =>
    have := List.find?_eq_none.1 hf e he
    simp at this
  | some a =>
    have h1 := List.find?_some hf
    have h2 := List.mem_of_find?_eq_some hf
    simp only [decide_eq_true_eq] at h1
    have : a = e := by
      obtain ⟨i, hi, rfl⟩ := List.mem_iff_getElem.1 h2
      obtain ⟨j, hj, rfl⟩ := List.mem_iff_getElem.1 he
      have e1 : (l.map P2.y).idxOf l[i].y = i := by
        have := hy.idxOf_getElem i (by simpa using hi)
        simpa using this
      have e2 : (l.map P2.y).idxOf l[j].y = j := by
        have := hy.idxOf_getElem j (by simpa using hj)
        simpa using this
      rw [h1] at e1
      have : i = j := by omega
      subst this; rfl
    subst this; rfl

def walkW (nx : Int → Int) (done : List Int) : Nat → List Int → Int → List Int
  | 0, w, _ => w
  | n + 1, w, v => if v ∈ done ++ w then w else walkW nx done n (w ++ [v]) (nx v)
def loopStep (nx : Int → Int) (N : Nat) (s : List Int × List (List Int)) (e : P2) : List Int × List (List Int) :=
  if e.x ∈ s.1 then s else (s.1 ++ walkW nx s.1 (N + 1) [] e.x, s.2 ++ [walkW nx s.1 (N + 1) [] e.x])
def loopsK (nx : Int → Int) (l : List P2) (k : Nat) : List Int × List (List Int) := (l.take k).foldl (loopStep nx l.length) ([], [])
theorem loopsK_succ (nx : Int → Int) {l : List P2} {k : Nat} {e : P2} (h : l[k]? = some e) : loopsK nx l (k + 1) = loopStep nx l.length (loopsK nx l k) e := by
  unfold loopsK; rw [take_succ_get h, List.foldl_append]; rfl
def loopsOf (l : List P2) : List (List Int) := (loopsK (nxt l) l l.length).2
def Mesh.loops (m : Mesh) : List (List Int) × Int := if m.check = 0 then (if m.simple m.border then (loopsOf m.border, 0) else ([], 13)) else ([], m.check)
/-- How many of these are not done. -/
def todo (A done : List Int) : Nat := (A.filter fun v => !done.contains v).length
theorem todo_lt {A done : List Int} {v : Int} (hv : v ∈ A) (hd : v ∉ done) : todo A (done ++ [v]) < todo A done := by
  unfold todo
  induction A with
  | nil => simp at hv
  | cons a A ih =>
    have hle : (A.filter fun u => !(done ++ [v]).contains u).length ≤ (A.filter fun u => !done.contains u).length := by
      clear ih hv
      induction A with
      | nil => simp
      | cons b A ih2 =>
        simp only [List.filter_cons]
        by_cases hb : done.contains b = true
        · have : (done ++ [v]).contains b = true := by simp at hb ⊢; exact .inl hb
          rw [hb, this]; exact ih2
        · rw [Bool.not_eq_true] at hb
          simp only [hb, Bool.not_false, if_true]
          split <;> (try simp only [List.length_cons]) <;> omega
    by_cases hav : a = v
    · subst hav
      have h1 : (done ++ [a]).contains a = true := by simp
      have h2 : done.contains a = false := by simpa using hd
      simp only [List.filter_cons, h1, h2, Bool.not_true, Bool.not_false, if_true, Bool.false_eq_true, if_false, List.length_cons]
      omega
    · have hvA : v ∈ A := by
        rcases List.mem_cons.1 hv with h | h
        · exact absurd h.symm hav
        · exact h
      have := ih hvA
      have hc : (done ++ [v]).contains a = done.contains a := by
        rw [Bool.eq_iff_iff]; simp [hav]
      simp only [List.filter_cons, hc]
      split <;> (try simp only [List.length_cons]) <;> omega
theorem todo_le (A done : List Int) : todo A done ≤ A.length := List.length_filter_le _ _
end Go.Abs

