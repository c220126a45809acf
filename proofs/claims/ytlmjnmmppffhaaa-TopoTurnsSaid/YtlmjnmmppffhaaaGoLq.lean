/- Loops of boundaries: they are cycles and go along all boundary edges. -/
import Derived.Test.YtlmjnmmppffhaaaGoLpB
set_option linter.unusedVariables false
set_option linter.unusedSimpArgs false
namespace Go.Abs

/-- A list that a map leads around. -/
def Cyc (nx : Int → Int) (w : List Int) : Prop := w ≠ [] ∧ ∀ (i : Nat) (v u : Int), w[i]? = some v → w[(i + 1) % w.length]? = some u → nx v = u
structure Perm1 (nx : Int → Int) (A : List Int) : Prop where
  mem : ∀ v ∈ A, nx v ∈ A
  inj : ∀ v ∈ A, ∀ u ∈ A, nx v = nx u → v = u
def PathTo (nx : Int → Int) (v0 : Int) (w : List Int) (v : Int) : Prop :=
  (w = [] ∧ v = v0) ∨ (w[0]? = some v0 ∧ (∀ (i : Nat) (a b : Int), w[i]? = some a → w[i + 1]? = some b → nx a = b) ∧ ∃ z, w[w.length - 1]? = some z ∧ nx z = v)
theorem PathTo.snoc {nx : Int → Int} {v0 v : Int} {w : List Int} (h : PathTo nx v0 w v) : PathTo nx v0 (w ++ [v]) (nx v) := by
  right
  rcases h with ⟨rfl, rfl⟩ | ⟨h1, h2, z, h3, h4⟩
  · refine ⟨rfl, fun i a b ha hb => ?_, v, rfl, rfl⟩
    simp at hb
  · have hne : 0 < w.length := (List.getElem?_eq_some_iff.1 h1).1
    refine ⟨by rw [List.getElem?_append_left hne]; exact h1, fun i a b ha hb => ?_, v, by simp, rfl⟩
    by_cases hi : i + 1 < w.length
    · rw [List.getElem?_append_left (by omega)] at ha
      rw [List.getElem?_append_left hi] at hb
      exact h2 i a b ha hb
    · have hlt := (List.getElem?_eq_some_iff.1 hb).1
      simp at hlt
      have hi2 : i = w.length - 1 := by omega
      rw [List.getElem?_append_left (by omega), hi2, h3] at ha
      rw [List.getElem?_append_right (by omega), show i + 1 - w.length = 0 by omega] at hb
      simp at ha hb
      subst ha; subst hb; exact h4
structure Walk (nx : Int → Int) (A done w : List Int) : Prop where
  cyc : Cyc nx w
  nodup : (done ++ w).Nodup
  sub : ∀ v ∈ w, v ∈ A
  clo : ∀ v ∈ A, (v ∈ done ++ w ↔ nx v ∈ done ++ w)
theorem nodup_idx {l : List Int} (hn : l.Nodup) {i j : Nat} {a : Int} (hi : l[i]? = some a) (hj : l[j]? = some a) : i = j := by
  obtain ⟨h1, h2⟩ := List.getElem?_eq_some_iff.1 hi
  obtain ⟨h3, h4⟩ := List.getElem?_eq_some_iff.1 hj
  have e1 := hn.idxOf_getElem i h1
  have e2 := hn.idxOf_getElem j h3
  rw [h2] at e1; rw [h4] at e2
  omega
theorem walkW_ok {nx : Int → Int} {A done : List Int} (hP : Perm1 nx A) (hclo : ∀ v ∈ A, (v ∈ done ↔ nx v ∈ done)) {v0 : Int} (h0 : v0 ∉ done) :
    ∀ (fu : Nat) (w : List Int) (v : Int), v ∈ A → PathTo nx v0 w v → (done ++ w).Nodup → (∀ u ∈ w, u ∈ A) → todo A (done ++ w) < fu → Walk nx A done (walkW nx done fu w v)
  | 0, w, v, _, _, _, _, h => by omega
  | fu + 1, w, v, hv, hp, hn, hs, ht => by
    unfold walkW
    by_cases hvd : v ∈ done ++ w
    · rw [if_pos hvd]
      rcases hp with ⟨rfl, rfl⟩ | ⟨h1, h2, z, h3, h4⟩
      · rw [List.append_nil] at hvd; exact absurd hvd h0
      have hnd := List.nodup_append.1 hn
      have hwn : w.Nodup := hnd.2.1
      have hz : z ∈ w := List.mem_of_getElem? h3
      have hzA := hs z hz
      have hzd : z ∉ done := fun h => hnd.2.2 z h z hz rfl
      have hvn : v ∉ done := fun h => hzd ((hclo z hzA).2 (by rw [h4]; exact h))
      have hvw : v ∈ w := by
        rcases List.mem_append.1 hvd with h | h
        · exact absurd h hvn
        · exact h
      have hv0 : v = v0 := by
        obtain ⟨j, hj⟩ := List.getElem?_of_mem hvw
        have hjl := (List.getElem?_eq_some_iff.1 hj).1
        cases j with
        | zero => rw [h1] at hj; exact (Option.some.inj hj).symm
        | succ j =>
          have hq : w[j]? = some w[j] := List.getElem?_eq_getElem (by omega)
          have := h2 j _ _ hq hj
          have he := hP.inj w[j] (hs w[j] (List.getElem_mem (by omega))) z hzA (by rw [this, h4])
          rw [he] at hq
          have := nodup_idx hwn hq h3
          omega
      have hne : 0 < w.length := (List.getElem?_eq_some_iff.1 h1).1
      have hcyc : Cyc nx w := by
        refine ⟨by rintro rfl; simp at hne, fun i a b ha hb => ?_⟩
        have hi := (List.getElem?_eq_some_iff.1 ha).1
        by_cases hl : i + 1 < w.length
        · rw [Nat.mod_eq_of_lt hl] at hb
          exact h2 i a b ha hb
        · have hi2 : i = w.length - 1 := by omega
          rw [show i + 1 = w.length by omega, Nat.mod_self, h1] at hb
          rw [hi2, h3] at ha
          obtain rfl := Option.some.inj ha
          obtain rfl := Option.some.inj hb
          rw [h4, hv0]
      refine ⟨hcyc, hn, hs, fun u hu => ?_⟩
      rw [List.mem_append, List.mem_append]
      constructor
      · rintro (h | h)
        · exact .inl ((hclo u hu).1 h)
        · right
          obtain ⟨i, hi⟩ := List.getElem?_of_mem h
          have hil := (List.getElem?_eq_some_iff.1 hi).1
          have hm : (i + 1) % w.length < w.length := Nat.mod_lt _ hne
          rw [hcyc.2 i u _ hi (List.getElem?_eq_getElem hm)]
          exact List.getElem_mem _
      · rintro (h | h)
        · exact .inl ((hclo u hu).2 h)
        · right
          obtain ⟨j, hj⟩ := List.getElem?_of_mem h
          cases j with
          | zero =>
            rw [h1] at hj
            have : nx u = nx z := by rw [h4, hv0]; exact (Option.some.inj hj).symm
            rw [hP.inj u hu z hzA this]; exact hz
          | succ j =>
            have hjl := (List.getElem?_eq_some_iff.1 hj).1
            have hq : w[j]? = some w[j] := List.getElem?_eq_getElem (by omega)
            have := h2 j _ _ hq hj
            rw [hP.inj u hu w[j] (hs w[j] (List.getElem_mem (by omega))) this.symm]
            exact List.getElem_mem _
    · rw [if_neg hvd]
      refine walkW_ok hP hclo h0 fu (w ++ [v]) (nx v) (hP.mem v hv) hp.snoc ?_ (fun u hu => ?_) ?_
      · rw [← List.append_assoc, List.nodup_append]
        exact ⟨hn, by simp, fun a ha b hb => by simp at hb; subst hb; rintro rfl; exact hvd ha⟩
      · rcases List.mem_append.1 hu with h | h
        · exact hs u h
        · simp at h; subst h; exact hv
      · rw [← List.append_assoc]
        have := todo_lt hv hvd
        omega
structure LoopsOk (nx : Int → Int) (A : List Int) (s : List Int × List (List Int)) : Prop where
  flat : s.2.flatten = s.1
  nodup : s.1.Nodup
  sub : ∀ v ∈ s.1, v ∈ A
  clo : ∀ v ∈ A, (v ∈ s.1 ↔ nx v ∈ s.1)
  cyc : ∀ w ∈ s.2, Cyc nx w
theorem loopStep_ok {nx : Int → Int} {l : List P2} (hP : Perm1 nx (l.map P2.x)) {s : List Int × List (List Int)} (h : LoopsOk nx (l.map P2.x) s) {e : P2} (he : e ∈ l) : LoopsOk nx (l.map P2.x) (loopStep nx l.length s e) ∧ e.x ∈ (loopStep nx l.length s e).1 ∧ ∀ v ∈ s.1, v ∈ (loopStep nx l.length s e).1 := by
  unfold loopStep
  by_cases hd : e.x ∈ s.1
  · rw [if_pos hd]; exact ⟨h, hd, fun v hv => hv⟩
  · rw [if_neg hd]
    have hxA : e.x ∈ l.map P2.x := List.mem_map.2 ⟨e, he, rfl⟩
    have htd := todo_le (l.map P2.x) s.1
    rw [List.length_map] at htd
    have hw := walkW_ok hP h.clo hd (l.length + 1) [] e.x hxA (.inl ⟨rfl, rfl⟩) (by rw [List.append_nil]; exact h.nodup) (by simp) (by rw [List.append_nil]; omega)
    have hx : e.x ∈ walkW nx s.1 (l.length + 1) [] e.x := by
      have key : ∀ (fu : Nat) (w : List Int) (v u : Int), u ∈ w → u ∈ walkW nx s.1 fu w v := by
        intro fu
        induction fu with
        | zero => intro w v u hu; exact hu
        | succ fu ih =>
          intro w v u hu
          unfold walkW
          split
          · exact hu
          · exact ih _ _ _ (by simp [hu])
      unfold walkW
      rw [List.append_nil, if_neg hd]
      exact key _ _ _ _ (by simp)
    refine ⟨⟨by simp [h.flat], hw.nodup, fun v hv => ?_, hw.clo, fun w hw' => ?_⟩, by simp [hx], fun v hv => by simp [hv]⟩
    · rcases List.mem_append.1 hv with h1 | h1
      · exact h.sub v h1
      · exact hw.sub v h1
    · rcases List.mem_append.1 hw' with h1 | h1
      · exact h.cyc w h1
      · simp at h1; subst h1; exact hw.cyc
theorem loopsK_ok {nx : Int → Int} {l : List P2} (hP : Perm1 nx (l.map P2.x)) : ∀ k, k ≤ l.length → LoopsOk nx (l.map P2.x) (loopsK nx l k) ∧ ∀ e ∈ l.take k, e.x ∈ (loopsK nx l k).1
  | 0, _ => ⟨⟨rfl, by simp [loopsK], by simp [loopsK], by simp [loopsK], by simp [loopsK]⟩, by simp⟩
  | k + 1, hk => by
    have hp : l[k]? = some l[k] := List.getElem?_eq_getElem (by omega)
    obtain ⟨h1, h2⟩ := loopsK_ok hP k (by omega)
    obtain ⟨q1, q2, q3⟩ := loopStep_ok hP h1 (List.getElem_mem (l := l) (n := k) (by omega))
    rw [loopsK_succ nx hp]
    refine ⟨q1, fun e he => ?_⟩
    rw [take_succ_get hp] at he
    rcases List.mem_append.1 he with h | h
    · exact q3 _ (h2 e h)
    · simp at h; subst h; exact q2
theorem nxt_perm {m : Mesh} (hz : m.check = 0) (h : m.simple m.border = true) : Perm1 (nxt m.border) (m.border.map P2.x) where
  mem v hv := nxt_mem hz h hv
  inj v hv u hu he := by
    rw [border_xy hz h] at hv hu
    obtain ⟨a, ha, rfl⟩ := List.mem_map.1 hv
    obtain ⟨b, hb, rfl⟩ := List.mem_map.1 hu
    have hy := border_ynd hz h
    rw [nxt_of hy ha, nxt_of hy hb] at he
    have hx := simple_xnd h (border_asc m)
    obtain ⟨i, hi, rfl⟩ := List.mem_iff_getElem.1 ha
    obtain ⟨j, hj, rfl⟩ := List.mem_iff_getElem.1 hb
    have e1 := hx.idxOf_getElem i (by simpa using hi)
    have e2 := hx.idxOf_getElem j (by simpa using hj)
    simp only [List.getElem_map] at e1 e2
    rw [he] at e1
    have : i = j := by omega
    subst this; rfl
/-- What is known of the loops of a simple boundary. -/
structure LoopsAre (m : Mesh) (ls : List (List Int)) : Prop where
  cyc : ∀ w ∈ ls, Cyc (nxt m.border) w
  nodup : ls.flatten.Nodup
  mem : ∀ v, v ∈ ls.flatten ↔ v ∈ m.border.map P2.x
theorem loops_are {m : Mesh} (hz : m.check = 0) (h : m.simple m.border = true) : LoopsAre m (loopsOf m.border) := by
  obtain ⟨h1, h2⟩ := loopsK_ok (nxt_perm hz h) m.border.length (Nat.le_refl _)
  rw [List.take_length] at h2
  refine ⟨h1.cyc, by unfold loopsOf; rw [h1.flat]; exact h1.nodup, fun v => ?_⟩
  unfold loopsOf
  rw [h1.flat]
  constructor
  · exact h1.sub v
  · intro hv
    obtain ⟨e, he, rfl⟩ := List.mem_map.1 hv
    exact h2 e he
theorem nxt_border {m : Mesh} (hz : m.check = 0) (h : m.simple m.border = true) {v : Int} (hv : v ∈ m.border.map P2.x) : (⟨nxt m.border v, v⟩ : P2) ∈ m.border := by
  rw [border_xy hz h] at hv
  obtain ⟨e, he, rfl⟩ := List.mem_map.1 hv
  rw [nxt_of (border_ynd hz h) he]
  exact he
theorem simple_mem {m : Mesh} (h : m.simple m.border = true) {e : P2} (he : e ∈ m.border) : m.use e = 1 ∧ m.use e.rev = 0 := by
  obtain ⟨i, hi⟩ := List.getElem?_of_mem he
  have := simple_get h hi
  exact ⟨this.1, this.2.1⟩
theorem loops_long {m : Mesh} (hz : m.check = 0) (h : m.simple m.border = true) : ∀ w ∈ loopsOf m.border, 3 ≤ w.length := by
  intro w hw
  have hL := loops_are hz h
  have hc := hL.cyc w hw
  have hA : ∀ v ∈ w, v ∈ m.border.map P2.x := fun v hv => (hL.mem v).1 (List.mem_flatten.2 ⟨w, hw, hv⟩)
  have hne := hc.1
  match w, hc, hA, hne with
  | [], _, _, hne => exact absurd rfl hne
  | [a], hc, hA, _ =>
    have h1 := hc.2 0 a a (by simp) (by simp)
    have h2 := nxt_border hz h (hA a (by simp))
    rw [h1] at h2
    exact absurd rfl (alluses_ne (mem_border.1 h2).2.1)
  | [a, b], hc, hA, _ =>
    have h1 := hc.2 0 a b (by simp) (by simp)
    have h1' := hc.2 1 b a (by simp) (by simp)
    have h2 := nxt_border hz h (hA a (by simp))
    have h3 := nxt_border hz h (hA b (by simp))
    rw [h1] at h2
    rw [h1'] at h3
    have k2 := simple_mem h h2
    have k3 := simple_mem h h3
    have : (⟨b, a⟩ : P2).rev = ⟨a, b⟩ := rfl
    rw [this] at k2
    omega
  | _ :: _ :: _ :: _, _, _, _ => simp
end Go.Abs

