/- Part of the abstract machine on which the proof stands: its values, code and their soundness against the model. -/
import Derived.Test.YtlmjnmmppffhaaaGoTr
import Derived.Test.YtlmjnmmppffhaaaAbsST
import Derived.Shelf.SortM.Plain
import Derived.Shelf.SortM.SortNone
import Derived.Test.YtlmjnmmppffhaaaGoSet
set_option linter.unusedVariables false
set_option linter.unusedSimpArgs false
namespace Go.Abs

def adjT (s t : T3) : Prop := ∃ a ∈ edgesOf s, ∃ b ∈ edgesOf t, a.und = b.und
def adjI (ts : List T3) (i j : Nat) : Prop := ∃ s t, ts[i]? = some s ∧ ts[j]? = some t ∧ adjT s t
theorem adjI.symm {ts : List T3} {i j : Nat} (h : adjI ts i j) : adjI ts j i := by
  obtain ⟨s, t, h1, h2, a, ha, b, hb, h3⟩ := h
  exact ⟨t, s, h2, h1, b, hb, a, ha, h3.symm⟩
inductive Conn (ts : List T3) : Nat → Nat → Prop where
  | refl {i : Nat} : i < ts.length → Conn ts i i
  | tail {i j k : Nat} : Conn ts i j → adjI ts j k → Conn ts i k
theorem adjI.lt {ts : List T3} {i j : Nat} (h : adjI ts i j) : i < ts.length ∧ j < ts.length := by
  obtain ⟨s, t, h1, h2, _⟩ := h
  exact ⟨(List.getElem?_eq_some_iff.1 h1).1, (List.getElem?_eq_some_iff.1 h2).1⟩
theorem Conn.lt {ts : List T3} {i j : Nat} (h : Conn ts i j) : i < ts.length ∧ j < ts.length := by
  induction h with
  | refl h => exact ⟨h, h⟩
  | tail _ h2 ih => exact ⟨ih.1, h2.lt.2⟩
theorem Conn.head {ts : List T3} {i j k : Nat} (h : adjI ts i j) (h2 : Conn ts j k) : Conn ts i k := by
  induction h2 with
  | refl _ => exact .tail (.refl h.lt.1) h
  | tail _ h3 ih => exact .tail ih h3
theorem Conn.symm {ts : List T3} {i j : Nat} (h : Conn ts i j) : Conn ts j i := by
  induction h with
  | refl h => exact .refl h
  | tail _ h2 ih => exact .head h2.symm ih
theorem Conn.trans {ts : List T3} {i j k : Nat} (h : Conn ts i j) (h2 : Conn ts j k) : Conn ts i k := by
  induction h2 with
  | refl _ => exact h
  | tail _ h3 ih => exact .tail ih h3
/-- Every triangle bears the least index of its shell. -/
structure IsLab (ts : List T3) (L : List Int) : Prop where
  len : L.length = ts.length
  con : ∀ (i : Nat) (v : Int), L[i]? = some v → 0 ≤ v ∧ v ≤ i ∧ Conn ts i v.toNat
  adj : ∀ i j, adjI ts i j → L[i]? = L[j]?
theorem IsLab.conn {ts : List T3} {L : List Int} (h : IsLab ts L) {i j : Nat} (hc : Conn ts i j) : L[i]? = L[j]? := by
  induction hc with
  | refl _ => rfl
  | tail _ h2 ih => rw [ih]; exact h.adj _ _ h2
theorem IsLab.le {ts : List T3} {L K : List Int} (h : IsLab ts L) (k : IsLab ts K) {i : Nat} {v u : Int} (h1 : L[i]? = some v) (h2 : K[i]? = some u) : u ≤ v := by
  obtain ⟨a1, a2, a3⟩ := h.con i v h1
  have h3 := k.conn a3
  rw [h2] at h3
  have := (k.con v.toNat u h3.symm).2.1
  omega
theorem IsLab.eq {ts : List T3} {L K : List Int} (h : IsLab ts L) (k : IsLab ts K) : L = K := by
  apply List.ext_getElem?
  intro i
  by_cases hi : i < ts.length
  · have h1 : L[i]? = some (L[i]'(by rw [h.len]; exact hi)) := List.getElem?_eq_getElem _
    have h2 : K[i]? = some (K[i]'(by rw [k.len]; exact hi)) := List.getElem?_eq_getElem _
    have a := h.le k h1 h2
    have b := k.le h h2 h1
    rw [h1, h2]; congr 1; omega
  · rw [List.getElem?_eq_none (by rw [h.len]; omega), List.getElem?_eq_none (by rw [k.len]; omega)]
open Classical in
noncomputable def labOf (ts : List T3) : List Int := if h : ∃ L, IsLab ts L then Classical.choose h else []
theorem labOf_eq {ts : List T3} {L : List Int} (h : IsLab ts L) : labOf ts = L := by
  unfold labOf
  rw [dif_pos ⟨L, h⟩]
  exact (Classical.choose_spec (⟨L, h⟩ : ∃ L, IsLab ts L)).eq h
/-- The members of a shell among the first. -/
def shK (L : List Int) (i k : Nat) : List Int := ((List.range k).filter fun j => decide (L[j]? = some (i : Int))).map fun (j : Nat) => (j : Int)
def shsK (L : List Int) (k : Nat) : List (List Int) := ((List.range k).filter fun (i : Nat) => decide (L[i]? = some (i : Int))).map fun i => shK L i L.length
noncomputable def Mesh.shells (m : Mesh) : List (List Int) := if m.check = 0 then shsK (labOf m.tris) (labOf m.tris).length else []
def ShellsC (P : Program) (f : FuncId) : Prop := ∀ m : Mesh, CallIs P f [m.enc] (lsV m.shells)
theorem shK_succ (L : List Int) (i k : Nat) : shK L i (k + 1) = shK L i k ++ if L[k]? = some (i : Int) then [(k : Int)] else [] := by
  unfold shK
  rw [List.range_succ, List.filter_append, List.map_append]
  by_cases h : L[k]? = some (i : Int) <;> simp [h]
theorem shsK_succ (L : List Int) (k : Nat) : shsK L (k + 1) = shsK L k ++ if L[k]? = some (k : Int) then [shK L k L.length] else [] := by
  unfold shsK
  rw [List.range_succ, List.filter_append, List.map_append]
  by_cases h : L[k]? = some (k : Int) <;> simp [h]
/-- A shell's members do not come before its name. -/
theorem shK_low {ts : List T3} {L : List Int} (h : IsLab ts L) (i : Nat) : shK L i i = [] := by
  unfold shK
  rw [List.map_eq_nil_iff, List.filter_eq_nil_iff]
  intro j hj
  have hj := List.mem_range.1 hj
  simp only [decide_eq_true_eq]
  intro hh
  have := (h.con j i hh).2.1
  omega
/-- What is known of the labels while they spread. -/
structure PreLab (ts : List T3) (L : List Int) : Prop where
  len : L.length = ts.length
  con : ∀ (i : Nat) (v : Int), L[i]? = some v → 0 ≤ v ∧ v ≤ i ∧ Conn ts i v.toNat
def near (ts : List T3) (i j : Nat) : Prop := j = i ∨ adjI ts i j
structure Spread (ts : List T3) (L K : List Int) : Prop where
  len : K.length = ts.length
  att : ∀ (i : Nat) (v : Int), K[i]? = some v → ∃ j, near ts i j ∧ L[j]? = some v
  low : ∀ (i j : Nat) (v u : Int), K[i]? = some v → near ts i j → L[j]? = some u → v ≤ u
theorem PreLab.spread {ts : List T3} {L K : List Int} (h : PreLab ts L) (s : Spread ts L K) : PreLab ts K where
  len := s.len
  con i v hv := by
    obtain ⟨j, hj, hjv⟩ := s.att i v hv
    obtain ⟨c1, c2, c3⟩ := h.con j v hjv
    have hi : i < L.length := by rw [h.len, ← s.len]; exact (List.getElem?_eq_some_iff.1 hv).1
    have hle := s.low i i v L[i] hv (.inl rfl) (List.getElem?_eq_getElem hi)
    have hci := (h.con i L[i] (List.getElem?_eq_getElem hi)).2.1
    refine ⟨c1, by omega, ?_⟩
    rcases hj with rfl | hj
    · exact c3
    · exact .head hj c3
theorem Spread.fix {ts : List T3} {L : List Int} (h : PreLab ts L) (s : Spread ts L L) : IsLab ts L where
  len := h.len
  con := h.con
  adj i j hij := by
    have h1 : L[i]? = some (L[i]'(by rw [h.len]; exact hij.lt.1)) := List.getElem?_eq_getElem _
    have h2 : L[j]? = some (L[j]'(by rw [h.len]; exact hij.lt.2)) := List.getElem?_eq_getElem _
    have a := s.low i j _ _ h1 (.inr hij) h2
    have b := s.low j i _ _ h2 (.inr hij.symm) h1
    rw [h1, h2]; congr 1; omega
def sumN (L : List Int) : Nat := (L.map Int.toNat).sum
theorem sumN_lt : ∀ {L K : List Int}, K.length = L.length → (∀ (i : Nat) (v u : Int), K[i]? = some v → L[i]? = some u → v ≤ u ∧ 0 ≤ v) → K ≠ L → sumN K < sumN L
  | [], [], _, _, h => absurd rfl h
  | [], _ :: _, h, _, _ => by simp at h
  | _ :: _, [], h, _, _ => by simp at h
  | l :: L, k :: K, hl, hle, hne => by
    have h0 := hle 0 k l rfl rfl
    have ht : ∀ (i : Nat) (v u : Int), K[i]? = some v → L[i]? = some u → v ≤ u ∧ 0 ≤ v := fun i v u h1 h2 => hle (i + 1) v u (by simpa using h1) (by simpa using h2)
    simp only [List.length_cons, Nat.add_right_cancel_iff] at hl
    simp only [sumN, List.map_cons, List.sum_cons]
    by_cases hkl : K = L
    · subst hkl
      have : k ≠ l := fun h => hne (by rw [h])
      omega
    · have := sumN_lt hl ht hkl
      unfold sumN at this
      omega
theorem Spread.sum {ts : List T3} {L K : List Int} (h : PreLab ts L) (s : Spread ts L K) (hne : K ≠ L) : sumN K < sumN L :=
  sumN_lt (by rw [s.len, h.len]) (fun i v u h1 h2 => ⟨s.low i i v u h1 (.inl rfl) h2, ((h.spread s).con i v h1).1⟩) hne
theorem pre_id (ts : List T3) : PreLab ts ((List.range ts.length).map fun (j : Nat) => (j : Int)) where
  len := by simp
  con i v hv := by
    rw [List.getElem?_map, Option.map_eq_some_iff] at hv
    obtain ⟨j, hj, rfl⟩ := hv
    obtain ⟨h1, h2⟩ := List.getElem?_eq_some_iff.1 hj
    simp at h1 h2
    subst h2
    exact ⟨by omega, by omega, by rw [Int.toNat_natCast]; exact .refl h1⟩
end Go.Abs

set_option linter.unusedVariables false
set_option linter.unusedSimpArgs false
namespace Go.Abs

/-- The least number that bears this edge. -/
def leastV (n : Int) (Q : List (P2 × Int)) (e : P2) : Int := Q.foldl (fun a p => if p.1 = e then min a p.2 else a) n
theorem leastV_snoc (n : Int) (Q : List (P2 × Int)) (p : P2 × Int) (e : P2) : leastV n (Q ++ [p]) e = if e = p.1 then min (leastV n Q e) p.2 else leastV n Q e := by
  unfold leastV
  rw [List.foldl_append]
  simp only [List.foldl_cons, List.foldl_nil]
  by_cases h : e = p.1
  · rw [if_pos h, if_pos h.symm]
  · rw [if_neg h, if_neg (fun hh => h hh.symm)]
theorem leastV_ok (n : Int) (Q : List (P2 × Int)) (e : P2) : (leastV n Q e = n ∨ ∃ p ∈ Q, p.1 = e ∧ p.2 = leastV n Q e) ∧ ∀ p ∈ Q, p.1 = e → leastV n Q e ≤ p.2 := by
  have key : ∀ k, k ≤ Q.length → ((leastV n (Q.take k) e = n ∨ ∃ p ∈ Q.take k, p.1 = e ∧ p.2 = leastV n (Q.take k) e) ∧ ∀ p ∈ Q.take k, p.1 = e → leastV n (Q.take k) e ≤ p.2) ∧ leastV n (Q.take k) e ≤ n := by
    intro k
    induction k with
    | zero => intro _; exact ⟨⟨.inl rfl, by simp⟩, Int.le_refl _⟩
    | succ k ih =>
      intro hk
      obtain ⟨⟨h1, h2⟩, h3⟩ := ih (by omega)
      have hp : Q[k]? = some Q[k] := List.getElem?_eq_getElem (by omega)
      rw [take_succ_get hp, leastV_snoc]
      generalize Q[k] = q at *
      by_cases h : e = q.1
      · rw [if_pos h]
        refine ⟨⟨?_, fun p hpm hpe => ?_⟩, by omega⟩
        · by_cases hle : leastV n (Q.take k) e ≤ q.2
          · rw [Int.min_eq_left hle]
            rcases h1 with h1 | ⟨p, hpm, h4⟩
            · exact .inl h1
            · exact .inr ⟨p, List.mem_append.2 (.inl hpm), h4⟩
          · rw [Int.min_eq_right (by omega)]
            exact .inr ⟨q, List.mem_append.2 (.inr (by simp)), h.symm, rfl⟩
        · rcases List.mem_append.1 hpm with hh | hh
          · have := h2 p hh hpe; omega
          · simp at hh; subst hh; omega
      · rw [if_neg h]
        refine ⟨⟨?_, fun p hpm hpe => ?_⟩, h3⟩
        · rcases h1 with h1 | ⟨p, hpm, h4⟩
          · exact .inl h1
          · exact .inr ⟨p, List.mem_append.2 (.inl hpm), h4⟩
        · rcases List.mem_append.1 hpm with hh | hh
          · exact h2 p hh hpe
          · simp at hh; subst hh; exact absurd hpe.symm h
  have := (key Q.length (Nat.le_refl _)).1
  rwa [List.take_length] at this
def lAt (L : List Int) (i : Nat) : Int := (L[i]?).getD 0
def tAt (ts : List T3) (i : Nat) : T3 := (ts[i]?).getD ⟨0, 0, 0⟩
/-- The edges of the first triangles, with their labels. -/
def pairsK (ts : List T3) (L : List Int) (k : Nat) : List (P2 × Int) := (List.range k).flatMap fun i => (edgesOf (tAt ts i)).map fun e => (e.und, lAt L i)
theorem pairsK_succ (ts : List T3) (L : List Int) (k : Nat) : pairsK ts L (k + 1) = pairsK ts L k ++ (edgesOf (tAt ts k)).map fun e => (e.und, lAt L k) := by
  unfold pairsK; rw [List.range_succ, List.flatMap_append]; simp
def minE (g : P2 → Int) (l : List P2) (v : Int) : Int := l.foldl (fun a e => min a (g e.und)) v
theorem minE_snoc (g : P2 → Int) (l : List P2) (e : P2) (v : Int) : minE g (l ++ [e]) v = min (minE g l v) (g e.und) := by unfold minE; rw [List.foldl_append]; rfl
theorem minE_ok (g : P2 → Int) (l : List P2) (v : Int) : (minE g l v = v ∨ ∃ e ∈ l, g e.und = minE g l v) ∧ minE g l v ≤ v ∧ ∀ e ∈ l, minE g l v ≤ g e.und := by
  refine rev_ind (p := fun l => (minE g l v = v ∨ ∃ e ∈ l, g e.und = minE g l v) ∧ minE g l v ≤ v ∧ ∀ e ∈ l, minE g l v ≤ g e.und) ?_ ?_ l
  · exact ⟨.inl rfl, Int.le_refl _, by simp⟩
  · rintro E x ⟨h1, h2, h3⟩
    rw [minE_snoc]
    refine ⟨?_, by omega, fun e he => ?_⟩
    · by_cases hle : minE g E v ≤ g x.und
      · rw [Int.min_eq_left hle]
        rcases h1 with h1 | ⟨e, he, h4⟩
        · exact .inl h1
        · exact .inr ⟨e, by simp [he], h4⟩
      · rw [Int.min_eq_right (by omega)]
        exact .inr ⟨x, by simp, rfl⟩
    · rcases List.mem_append.1 he with h | h
      · have := h3 e h; omega
      · simp at h; subst h; omega
def gOf (ts : List T3) (L : List Int) : P2 → Int := leastV L.length (pairsK ts L ts.length)
/-- The labels after one round. -/
def sprK (ts : List T3) (L : List Int) (k : Nat) : List Int := (List.range k).map fun i => minE (gOf ts L) (edgesOf (tAt ts i)) (lAt L i)
theorem sprK_succ (ts : List T3) (L : List Int) (k : Nat) : sprK ts L (k + 1) = sprK ts L k ++ [minE (gOf ts L) (edgesOf (tAt ts k)) (lAt L k)] := by unfold sprK; rw [List.range_succ, List.map_append]; rfl
theorem sprK_len (ts : List T3) (L : List Int) (k : Nat) : (sprK ts L k).length = k := by simp [sprK]
theorem pairs_mem {ts : List T3} {L : List Int} {k : Nat} {p : P2 × Int} : p ∈ pairsK ts L k ↔ ∃ i < k, ∃ e ∈ edgesOf (tAt ts i), p = (e.und, lAt L i) := by
  unfold pairsK
  rw [List.mem_flatMap]
  constructor
  · rintro ⟨i, hi, h⟩
    obtain ⟨e, he, rfl⟩ := List.mem_map.1 h
    exact ⟨i, List.mem_range.1 hi, e, he, rfl⟩
  · rintro ⟨i, hi, e, he, rfl⟩
    exact ⟨i, List.mem_range.2 hi, List.mem_map.2 ⟨e, he, rfl⟩⟩
theorem sprK_ok {ts : List T3} {L : List Int} (h : PreLab ts L) : Spread ts L (sprK ts L ts.length) := by
  have hget : ∀ i v, (sprK ts L ts.length)[i]? = some v → i < ts.length ∧ v = minE (gOf ts L) (edgesOf (tAt ts i)) (lAt L i) := by
    intro i v hv
    unfold sprK at hv
    rw [List.getElem?_map, Option.map_eq_some_iff] at hv
    obtain ⟨j, hj, rfl⟩ := hv
    obtain ⟨h1, h2⟩ := List.getElem?_eq_some_iff.1 hj
    simp at h1 h2
    subst h2
    exact ⟨h1, rfl⟩
  have hL : ∀ i, i < ts.length → L[i]? = some (lAt L i) := fun i hi => by
    unfold lAt; rw [List.getElem?_eq_getElem (by rw [h.len]; exact hi)]; rfl
  have hT : ∀ i, i < ts.length → ts[i]? = some (tAt ts i) := fun i hi => by
    unfold tAt; rw [List.getElem?_eq_getElem hi]; rfl
  have hadj : ∀ i j e e', i < ts.length → j < ts.length → e ∈ edgesOf (tAt ts i) → e' ∈ edgesOf (tAt ts j) → e.und = e'.und → near ts i j := fun i j e e' hi hj he he' hu =>
    .inr ⟨_, _, hT i hi, hT j hj, e, he, e', he', hu⟩
  refine ⟨sprK_len _ _ _, fun i v hv => ?_, fun i j v u hv hn hu => ?_⟩
  · obtain ⟨hi, rfl⟩ := hget i v hv
    obtain ⟨m1, m2, m3⟩ := minE_ok (gOf ts L) (edgesOf (tAt ts i)) (lAt L i)
    rcases m1 with m1 | ⟨e, he, m1⟩
    · exact ⟨i, .inl rfl, by rw [m1]; exact hL i hi⟩
    · obtain ⟨l1, l2⟩ := leastV_ok L.length (pairsK ts L ts.length) e.und
      rcases l1 with l1 | ⟨p, hp, l1, l3⟩
      · exfalso
        have h1 := l2 (e.und, lAt L i) (pairs_mem.2 ⟨i, hi, e, he, rfl⟩) rfl
        have h2 := (h.con i _ (hL i hi)).2.1
        have h3 := h.len
        simp only at h1
        omega
      · obtain ⟨j, hj, e', he', rfl⟩ := pairs_mem.1 hp
        refine ⟨j, hadj i j e e' hi hj he he' l1.symm, ?_⟩
        rw [← m1]
        show L[j]? = some (leastV L.length (pairsK ts L ts.length) e.und)
        rw [← l3]
        exact hL j hj
  · obtain ⟨hi, rfl⟩ := hget i v hv
    obtain ⟨m1, m2, m3⟩ := minE_ok (gOf ts L) (edgesOf (tAt ts i)) (lAt L i)
    rcases hn with rfl | ⟨s, t, hs, ht, a, ha, b, hb, hab⟩
    · rw [hL _ hi] at hu
      obtain rfl := Option.some.inj hu
      exact m2
    · have hj := (List.getElem?_eq_some_iff.1 ht).1
      rw [hT i hi] at hs
      rw [hT j hj] at ht
      obtain rfl := Option.some.inj hs
      obtain rfl := Option.some.inj ht
      rw [hL j hj] at hu
      obtain rfl := Option.some.inj hu
      have h1 := m3 a ha
      have h2 := (leastV_ok L.length (pairsK ts L ts.length) a.und).2 (b.und, lAt L j) (pairs_mem.2 ⟨j, hj, b, hb, rfl⟩) hab.symm
      have h3 : gOf ts L a.und = leastV L.length (pairsK ts L ts.length) a.und := rfl
      simp only at h2
      omega
/-- Edges with the numbers that a map gives them. -/
def lw (K : List P2) (g : P2 → Int) : List Use := K.map fun e => (e, g e)
theorem lw_len (K : List P2) (g : P2 → Int) : (lw K g).length = K.length := by simp [lw]
theorem lw_asc {K : List P2} (h : asc K) (g : P2 → Int) : ascU (lw K g) := by
  unfold lw ascU
  rw [List.pairwise_map]
  exact h
theorem lw_get {K : List P2} (g : P2 → Int) {i : Nat} {e : P2} (h : K[i]? = some e) : (lw K g)[i]? = some (e, g e) := by simp [lw, h]
theorem lw_pl {K : List P2} (h : asc K) (g : P2 → Int) {i : Nat} {e : P2} (he : K[i]? = some e) : pl (lw K g) e = i := pl_found (lw_asc h g) (lw_get g he)
theorem lw_num {K : List P2} (h : asc K) (g : P2 → Int) {e : P2} (he : e ∈ K) : numU (lw K g) e = g e := numU_of (lw_asc h g) (List.mem_map.2 ⟨e, he, rfl⟩)
theorem lw_set {K : List P2} (h : asc K) (g g' : P2 → Int) {i : Nat} {e : P2} (he : K[i]? = some e) (hg : ∀ a ∈ K, a ≠ e → g' a = g a) : (lw K g).set i (e, g' e) = lw K g' := by
  apply List.ext_getElem?
  intro j
  have hil := (List.getElem?_eq_some_iff.1 he).1
  by_cases hj : i = j
  · subst hj
    rw [List.getElem?_set_self (by rw [lw_len]; exact hil), lw_get g' he]
  · rw [List.getElem?_set_ne hj]
    by_cases hjl : j < K.length
    · have hp : K[j]? = some K[j] := List.getElem?_eq_getElem hjl
      rw [lw_get g hp, lw_get g' hp]
      have hne : K[j] ≠ e := by
        intro hh
        have hn : K.Nodup := h.imp fun h1 h2 => by subst h2; exact P2.lt_irrefl _ h1
        have hp2 : K[j]? = some e := by rw [hp, hh]
        obtain ⟨q1, q2⟩ := List.getElem?_eq_some_iff.1 he
        obtain ⟨q3, q4⟩ := List.getElem?_eq_some_iff.1 hp2
        have e1 := hn.idxOf_getElem i q1
        have e2 := hn.idxOf_getElem j q3
        rw [q2] at e1; rw [q4] at e2
        omega
      rw [hg K[j] (List.getElem_mem _) hne]
    · rw [List.getElem?_eq_none (by rw [lw_len]; omega), List.getElem?_eq_none (by rw [lw_len]; omega)]
theorem undL_lw (E : List P2) : undL E = lw (ascOf E) (fun _ => 0) := by
  have h := und_keys E
  have h2 := (undL_ok E).2.1
  rw [← h]
  unfold lw
  rw [List.map_map]
  have : (undL E).map id = (undL E).map ((fun e => (e, (0 : Int))) ∘ Prod.fst) := by
    refine List.map_congr_left fun u hu => ?_
    have := ((h2 u.1 u.2).1 hu).2
    simp only [id, Function.comp]
    rw [← this]
  rw [← this, List.map_id]
end Go.Abs

set_option linter.unusedVariables false
set_option linter.unusedSimpArgs false
namespace Go.Abs

def SpreadFC (P : Program) (f : FuncId) : Prop := ∀ (m : Mesh) (L : List Int), m.check = 0 → PreLab m.tris L →
  CallIs P f [m.enc, isV L] (.t [isV (sprK m.tris L m.tris.length), .b (decide (sprK m.tris L m.tris.length ≠ L))])
theorem lw_congr {K : List P2} {g g' : P2 → Int} (h : ∀ e ∈ K, g e = g' e) : lw K g = lw K g' := by
  unfold lw; exact List.map_congr_left fun e he => by rw [h e he]
theorem lw_map_set {K : List P2} (h : asc K) (g g' : P2 → Int) {i : Nat} {e : P2} (he : K[i]? = some e) (hg : ∀ a ∈ K, a ≠ e → g' a = g a) {n : Int} (hn : n = g' e) :
    ((lw K g).map uCs).set i [.i .i64 e.x, .i .i64 e.y, .i .i64 n] = (lw K g').map uCs := by
  subst hn
  rw [← lw_set h g g' he hg, List.map_set]; rfl
def gK (K : List P2) (n : Int) (k : Nat) (e : P2) : Int := if K.idxOf e < k then n else 0
theorem take_ne {α : Type} [DecidableEq α] {K L : List α} {k : Nat} {a b : α} (hk : K.length = k) (hL : L[k]? = some b) : decide (K ++ [a] ≠ L.take (k + 1)) = (decide (K ≠ L.take k) || decide (a ≠ b)) := by
  rw [take_succ_get hL]
  have hlt := (List.getElem?_eq_some_iff.1 hL).1
  have hl : K.length = (L.take k).length := by simp; omega
  rw [Bool.eq_iff_iff]
  simp only [decide_eq_true_eq, Bool.or_eq_true, ne_eq]
  constructor
  · intro h
    by_cases h1 : K = L.take k
    · right; rintro rfl; exact h (by rw [h1])
    · exact .inl h1
  · rintro (h | h) hh
    · exact h (List.append_inj_left hh hl)
    · have := List.append_inj_right hh hl
      simp at this; exact h this

section
variable {P : Program} (hm : P.follows .mixedOrders = true)
include hm

set_option maxRecDepth 20000 in
set_option maxHeartbeats 8000000 in
theorem ref10_spread_ok {f fu fd fv fp fn : FuncId} (hf : FnOk P f (ref10_spread.c fu fd fv fp fn) ref10_spread.r ref10_spread.n) (hu : UndirC P fu) (hd : EdgesC P fd) (hv : UndC P fv) (hp : PlaceC P fp) (hn : NumberC P fn) : SpreadFC P f := by
  intro m L hz hL
  refine PureC.is (pure_of hm hf (Nat.le_of_ble_eq_true rfl) ?_) rfl
  unfold ref10_spread.c
  have hl := (Mesh.check_zero.1 hz).2.1
  have hu1 := hu m hz
  rw [undL_lw] at hu1
  have hKa : asc (ascOf ((alluses m.tris).map P2.und)) := ascOf_asc _
  have hKm : ∀ i, i < m.tris.length → ∀ e ∈ edgesOf (tAt m.tris i), e.und ∈ ascOf ((alluses m.tris).map P2.und) := by
    intro i hi e he
    rw [mem_ascOf, List.mem_map]
    have : m.tris[i]? = some (tAt m.tris i) := by unfold tAt; rw [List.getElem?_eq_getElem hi]; rfl
    exact ⟨e, List.mem_flatMap.2 ⟨_, List.mem_of_getElem? this, he⟩, rfl⟩
  have hKl : (ascOf ((alluses m.tris).map P2.und)).length ≤ 12288 := by
    have := @edgesL_len m
    unfold Mesh.edgesL at this
    rwa [if_pos hz] at this
  have hLl := hL.len
  have hLb : ∀ i, i < m.tris.length → L[i]? = some (lAt L i) := fun i hi => by unfold lAt; rw [List.getElem?_eq_getElem (by omega)]; rfl
  generalize ascOf ((alluses m.tris).map P2.und) = K at *
  have hKn : K.Nodup := hKa.imp fun h1 h2 => by subst h2; exact P2.lt_irrefl _ h1
  simp only [lw_len] at hu1
  simp [go_sem, Mesh.enc, Mesh.cs, isV]
  refine ACall_new hu1 rfl ?_
  simp only [List.map_cons, List.map_nil, sh_uCs]
  have hll := fun g => lw_len K g
  simp [go_sem, hll]
  have hg0 : lw K (fun _ => 0) = lw K (gK K L.length 0) := lw_congr fun e _ => by simp [gK]
  rw [hg0]
  refine AS_loop (α := Nat) (fun k => k ≤ K.length)
    (fun k => ⟨[(1, isV L), (2, .p 0 1 0 0), (6, .own 2 (K.length + 1) 0 K.length), (22, .own 2 (K.length + 1) 0 K.length), (23, .i .i64 K.length), (24, .i .i64 k)], [.arr 1 2 [m.cs], .dead, .arr (K.length + 1) 3 ((lw K (gK K L.length k)).map uCs)]⟩)
    (fun k => K.length - k) 0 (Nat.zero_le _) ?_ ?_
  · simp [go_sem, isV, Mesh.cs, vsV, tsV]
    exact uCs_cl2 _ _
  · intro k hk
    by_cases hkl : k = K.length
    · subst hkl
      have hg1 : lw K (gK K L.length K.length) = lw K (leastV L.length (pairsK m.tris L 0)) := lw_congr fun e he => by
        have := List.idxOf_lt_length_iff.2 he
        simp [gK, this, pairsK, leastV]
      rw [hg1]
      simp [go_sem, isV, Mesh.cs, tsV]
      refine AS_loop (α := Nat) (fun k => k ≤ m.tris.length)
        (fun k => ⟨[(1, isV L), (2, .p 0 1 0 0), (6, .own 2 (K.length + 1) 0 K.length), (35, tsV m.tris), (36, .i .i64 m.tris.length), (37, .i .i64 k)], [.arr 1 2 [m.cs], .dead, .arr (K.length + 1) 3 ((lw K (leastV L.length (pairsK m.tris L k))).map uCs)]⟩)
        (fun k => m.tris.length - k) 0 (Nat.zero_le _) ?_ ?_
      · simp [go_sem, isV, Mesh.cs, vsV, tsV]
        exact uCs_cl2 _ _
      · intro i hi
        by_cases hil : i = m.tris.length
        · subst hil
          have hgo : leastV L.length (pairsK m.tris L m.tris.length) = gOf m.tris L := rfl
          rw [hgo]
          simp [go_sem, isV, Mesh.cs, tsV]
          refine AS_loopG [.t 13 1] (α := Nat) (fun k => k ≤ m.tris.length)
            (fun k => ⟨[(1, isV L), (6, .own 2 (K.length + 1) 0 K.length), (13, .own 3 (k + 1) 0 k), (14, .b (decide (sprK m.tris L k ≠ L.take k))), (70, tsV m.tris), (71, .i .i64 m.tris.length), (72, .i .i64 k)], [.dead, .dead, .arr (K.length + 1) 3 ((lw K (gOf m.tris L)).map uCs), .arr (k + 1) 1 (ics (sprK m.tris L k))]⟩)
            (fun k => m.tris.length - k) 0 (Nat.zero_le _) ?_ ?_
          · simp [go_sem, isV, tsV, sprK, ics]
            exact uCs_cl2 _ _
          · intro k hk
            by_cases hkl : k = m.tris.length
            · subst hkl
              have hlt2 : L.take m.tris.length = L := List.take_of_length_le (by omega)
              have hsl := sprK_len m.tris L m.tris.length
              have htk : List.take m.tris.length (ics (sprK m.tris L m.tris.length)) = ics (sprK m.tris L m.tris.length) := List.take_of_length_le (by simp [ics, hsl])
              rw [hlt2]
              generalize sprK m.tris L m.tris.length = S at *
              simp [go_sem, isV, tsV, ref10_spread.r, htk]
              rw [if_pos ⟨by simp [ics, hsl], ics_isD S⟩]; rfl
            · have hlt : k < m.tris.length := by omega
              have hp3 : m.tris[k]? = some (tAt m.tris k) := by unfold tAt; rw [List.getElem?_eq_getElem hlt]; rfl
              have hLi := hLb k hlt
              have hss := sprK_succ m.tris L k
              have hsl := sprK_len m.tris L k
              have hkm := hKm k hlt
              generalize tAt m.tris k = t at *
              obtain ⟨_, hp'⟩ := List.getElem?_eq_some_iff.1 hp3
              obtain ⟨_, hLi'⟩ := List.getElem?_eq_some_iff.1 hLi
              generalize lAt L k = v at hLi hLi' hss
              have htn := take_ne (a := minE (gOf m.tris L) (edgesOf t) v) hsl hLi
              rw [← hss] at htn
              have htkk : List.take k (ics (sprK m.tris L k)) = ics (sprK m.tris L k) := List.take_of_length_le (by simp [ics, hsl])
              have hnum : ∀ e ∈ edgesOf t, CallIs P fn [useV (lw K (gOf m.tris L)), e.und.enc] (.i .i64 (gOf m.tris L e.und)) := fun e he => by
                have := hn (lw K (gOf m.tris L)) e.und (lw_asc hKa _) (by rw [hll]; omega)
                rwa [lw_num hKa _ (hkm e he)] at this
              have hic : ics (sprK m.tris L (k + 1)) = ics (sprK m.tris L k) ++ [[.i .i64 (minE (gOf m.tris L) (edgesOf t) v)]] := by rw [hss]; simp [ics]
              generalize gOf m.tris L = g at *
              generalize hag : decide (sprK m.tris L k ≠ List.take k L) = ag at *
              simp [go_sem, isV, tsV, hlt, hp3, hp', tcs, hLi, hLi', show k < L.length by omega]
              refine ACall_is (hd t) ?_
              have hlen : (edgesOf t).length ≤ 3 := edgesK_le t 3
              simp [go_sem, psV]
              generalize hS : sprK m.tris L k = S at *
              refine AS_loop (α := Nat) (fun j => j ≤ (edgesOf t).length)
                (fun j => ⟨[(1, isV L), (6, .own 2 (K.length + 1) 0 K.length), (13, .own 3 (k + 1) 0 k), (14, .b ag), (15, .i .i64 k), (17, .i .i64 (minE g ((edgesOf t).take j) v)), (70, tsV m.tris), (71, .i .i64 m.tris.length), (72, .i .i64 k), (82, psV (edgesOf t)), (83, .i .i64 (edgesOf t).length), (84, .i .i64 j)],
                  [.dead, .dead, .arr (K.length + 1) 3 ((lw K g).map uCs), .arr (k + 1) 1 (ics S)]⟩)
                (fun j => (edgesOf t).length - j) 0 (Nat.zero_le _) ?_ ?_
              · simp [go_sem, isV, tsV, psV, minE]
                exact ⟨uCs_cl2 _ _, ics_cl _ _⟩
              · intro j hj
                by_cases hjl : j = (edgesOf t).length
                · subst hjl
                  rw [List.take_length]
                  generalize minE g (edgesOf t) v = u at *
                  cases ag
                  · simp (disch := omega) [go_sem, isV, tsV, psV, wrap64_small, hLi, hLi', show k < L.length by omega, htkk]
                    refine ⟨⟨by simp [ics, hsl], by omega, by omega⟩, k + 1, by omega, by omega, ⟨rfl, ?_, by simp⟩, uCs_cl2 _ _, ⟨rfl, hic.symm⟩, ics_cl _ _⟩
                    have h := htn
                    simp only [Bool.false_or, ne_eq, decide_not] at h
                    rw [h]
                    by_cases huv : u = v <;> simp [huv]
                  · simp (disch := omega) [go_sem, isV, tsV, psV, wrap64_small, hLi, hLi', show k < L.length by omega, htkk]
                    exact ⟨⟨by simp [ics, hsl], by omega, by omega⟩, k + 1, by omega, by omega, ⟨rfl, by simpa using htn, by simp⟩, uCs_cl2 _ _, ⟨rfl, hic.symm⟩, ics_cl _ _⟩
                · have hjt : j < (edgesOf t).length := by omega
                  have hq : (edgesOf t)[j]? = some (edgesOf t)[j] := List.getElem?_eq_getElem hjt
                  have hne := hnum _ (List.getElem_mem hjt)
                  have hms : minE g ((edgesOf t).take (j + 1)) v = min (minE g ((edgesOf t).take j) v) (g (edgesOf t)[j].und) := by rw [take_succ_get hq, minE_snoc]
                  generalize (edgesOf t)[j] = e at hq hne hms
                  obtain ⟨_, hq'⟩ := List.getElem?_eq_some_iff.1 hq
                  generalize minE g ((edgesOf t).take j) v = u at *
                  generalize g e.und = ge at *
                  simp [go_sem, isV, psV, hjt, hq, hq', pcs]
                  refine ACall_is (hv e) ?_
                  simp [go_sem, psV]
                  refine ACall_lend (vs := [useV (lw K g), e.und.enc]) ?_ (hne []) rfl ?_
                  · exact frzAll_own rfl (by simp [hll]) (uCs_isD _) (by simp [frzAll, frz, frz0, P2.enc, pcs])
                  simp (disch := omega) [go_sem, isV, psV, wrap64_small, min_if]
                  exact ⟨j + 1, by omega, by omega, ⟨hms.symm, .inr rfl, by simp⟩, uCs_cl2 _ _, ics_cl _ _⟩
        · have hlt : i < m.tris.length := by omega
          have hp3 : m.tris[i]? = some (tAt m.tris i) := by unfold tAt; rw [List.getElem?_eq_getElem hlt]; rfl
          have hLi := hLb i hlt
          have hps := pairsK_succ m.tris L i
          have hkm := hKm i hlt
          generalize tAt m.tris i = t at *
          obtain ⟨_, hp'⟩ := List.getElem?_eq_some_iff.1 hp3
          obtain ⟨_, hLi'⟩ := List.getElem?_eq_some_iff.1 hLi
          generalize lAt L i = v at hLi hLi' hps
          generalize hQ : pairsK m.tris L i = Q at *
          simp [go_sem, isV, Mesh.cs, tsV, hlt, hp3, hp', tcs]
          refine ACall_is (hd t) ?_
          have hlen : (edgesOf t).length ≤ 3 := edgesK_le t 3
          simp [go_sem, psV]
          refine AS_loop (α := Nat) (fun j => j ≤ (edgesOf t).length)
            (fun j => ⟨[(1, isV L), (2, .p 0 1 0 0), (6, .own 2 (K.length + 1) 0 K.length), (8, .i .i64 i), (35, tsV m.tris), (36, .i .i64 m.tris.length), (37, .i .i64 i), (43, psV (edgesOf t)), (44, .i .i64 (edgesOf t).length), (45, .i .i64 j)],
              [.arr 1 2 [m.cs], .dead, .arr (K.length + 1) 3 ((lw K (leastV L.length (Q ++ ((edgesOf t).take j).map fun e => (e.und, v)))).map uCs)]⟩)
            (fun j => (edgesOf t).length - j) 0 (Nat.zero_le _) ?_ ?_
          · simp [go_sem, isV, Mesh.cs, tsV, vsV, psV]
            exact uCs_cl2 _ _
          · intro j hj
            by_cases hjl : j = (edgesOf t).length
            · subst hjl
              rw [List.take_length, ← hps]
              simp (disch := omega) [go_sem, isV, Mesh.cs, tsV, vsV, psV, wrap64_small]
              exact ⟨i + 1, by omega, by omega, by simp, rfl, uCs_cl2 _ _⟩
            · have hjt : j < (edgesOf t).length := by omega
              have hq : (edgesOf t)[j]? = some (edgesOf t)[j] := List.getElem?_eq_getElem hjt
              have hmem := hkm _ (List.getElem_mem hjt)
              have htk : ((edgesOf t).take (j + 1)).map (fun e => (e.und, v)) = ((edgesOf t).take j).map (fun e => (e.und, v)) ++ [((edgesOf t)[j].und, v)] := by rw [take_succ_get hq, List.map_append]; rfl
              generalize (edgesOf t)[j] = e at hq hmem htk
              obtain ⟨_, hq'⟩ := List.getElem?_eq_some_iff.1 hq
              obtain ⟨p, hpk⟩ := List.getElem?_of_mem hmem
              have hsn : ∀ a, leastV L.length (Q ++ ((edgesOf t).take (j + 1)).map fun e => (e.und, v)) a = if a = e.und then min (leastV L.length (Q ++ ((edgesOf t).take j).map fun e => (e.und, v)) a) v else leastV L.length (Q ++ ((edgesOf t).take j).map fun e => (e.und, v)) a := fun a => by
                rw [htk, ← List.append_assoc, leastV_snoc]
              have hset := lw_map_set hKa (leastV L.length (Q ++ ((edgesOf t).take j).map fun e => (e.und, v))) (leastV L.length (Q ++ ((edgesOf t).take (j + 1)).map fun e => (e.und, v))) hpk (fun a ha hne => by rw [hsn, if_neg hne]) (n := min (leastV L.length (Q ++ ((edgesOf t).take j).map fun e => (e.und, v)) e.und) v) (by rw [hsn, if_pos rfl])
              have hnx : ∀ W, W = (lw K (leastV L.length (Q ++ ((edgesOf t).take (j + 1)).map fun e => (e.und, v)))).map uCs → ∃ x', x' ≤ (edgesOf t).length ∧ (edgesOf t).length - x' < (edgesOf t).length - j ∧ (j : Int) + 1 = x' ∧ W = (lw K (leastV L.length (Q ++ ((edgesOf t).take x').map fun e => (e.und, v)))).map uCs := fun W hW => ⟨j + 1, by omega, by omega, by simp, hW⟩
              have hwg := lw_get (leastV L.length (Q ++ ((edgesOf t).take j).map fun e => (e.und, v))) hpk
              have hwp := lw_pl hKa (leastV L.length (Q ++ ((edgesOf t).take j).map fun e => (e.und, v))) hpk
              generalize leastV L.length (Q ++ ((edgesOf t).take (j + 1)).map fun e => (e.und, v)) = g' at *
              generalize leastV L.length (Q ++ ((edgesOf t).take j).map fun e => (e.und, v)) = g at *
              obtain ⟨hwl, hwg'⟩ := List.getElem?_eq_some_iff.1 hwg
              have hpl := (hp (lw K g) e.und (lw_asc hKa g) (by rw [hll]; omega)) []
              rw [hwp] at hpl
              simp [go_sem, isV, psV, hjt, hq, hq', pcs]
              refine ACall_is (hv e) ?_
              simp [go_sem, psV]
              refine ACall_lend (vs := [useV (lw K g), e.und.enc]) ?_ hpl rfl ?_
              · exact frzAll_own rfl (by simp [hll]) (uCs_isD _) (by simp [frzAll, frz, frz0, P2.enc, pcs])
              simp (disch := omega) [go_sem, isV, psV, hwg, hwg', hll, useCs, hLi, hLi', wrap64_small, min_if, hset, show p < K.length by rw [hll] at hwl; exact hwl, show i < L.length by omega]
              obtain ⟨x', q1, q2, q3, q4⟩ := hnx _ rfl
              rw [List.map_take] at q4
              refine ⟨x', q1, q2, ⟨.inr rfl, q3⟩, ?_, q4, uCs_cl2 _ _⟩
              intro x hx
              simp [Mesh.cs] at hx
              rcases hx with rfl | rfl <;> rfl
    · have hlt : k < K.length := by omega
      have hq : K[k]? = some K[k] := List.getElem?_eq_getElem hlt
      generalize K[k] = e at hq
      have hwg := lw_get (gK K L.length k) hq
      obtain ⟨hwl, hwg'⟩ := List.getElem?_eq_some_iff.1 hwg
      have hix : K.idxOf e = k := by
        obtain ⟨q1, q2⟩ := List.getElem?_eq_some_iff.1 hq
        have := hKn.idxOf_getElem k q1
        rwa [q2] at this
      have hset := lw_map_set hKa (gK K L.length k) (gK K L.length (k + 1)) hq (fun a ha hne => by
        have hne2 : K.idxOf a ≠ k := fun hh => by
          have h1 := List.idxOf_lt_length_iff.2 ha
          have h2 := List.getElem_idxOf h1
          have h3 : K[K.idxOf a]? = some a := by rw [List.getElem?_eq_getElem h1, h2]
          rw [hh, hq] at h3
          exact hne (Option.some.inj h3).symm
        unfold gK
        by_cases h : K.idxOf a < k
        · rw [if_pos h, if_pos (by omega)]
        · rw [if_neg h, if_neg (by omega)]) (n := (L.length : Int)) (by simp [gK, hix])
      generalize gK K L.length k = g at *
      simp (disch := omega) [go_sem, isV, Mesh.cs, hlt, hwg, hwg', hll, useCs, wrap64_small, hset]
      exact ⟨k + 1, by omega, by omega, by simp, ⟨rfl, rfl⟩, rfl, uCs_cl2 _ _⟩
end
end Go.Abs

set_option linter.unusedVariables false
set_option linter.unusedSimpArgs false
namespace Go.Abs

def idL (n : Nat) : List Int := (List.range n).map fun (j : Nat) => (j : Int)
theorem idL_succ (n : Nat) : idL (n + 1) = idL n ++ [(n : Int)] := by unfold idL; rw [List.range_succ, List.map_append]; rfl
theorem idL_len (n : Nat) : (idL n).length = n := by simp [idL]
theorem lsV_nil : Le .nil (lsV []) := .inl (.inl (Le0.nil 1))
theorem sum_le {ts : List T3} {L K : List Int} (h : PreLab ts L) (s : Spread ts L K) : sumN K ≤ sumN L := by
  by_cases hne : K = L
  · subst hne; exact Nat.le_refl _
  · exact Nat.le_of_lt (s.sum h hne)

theorem frz_own {h : List O} {id g sz n : Nat} {els : List (List V)} (ho : h[id]? = some (.arr g sz els)) (hn : els.length = n) (hd : ∀ el ∈ els, ∀ x ∈ el, x.isD = true) : frz h (.own id g 0 n) = some (.l sz els) := by
  subst hn
  have ha : (els.all fun x => x.all V.isD) = true := by rw [List.all_eq_true]; exact fun el hel => List.all_eq_true.2 (hd el hel)
  simp [frz, frz0, ho, ha]

section
variable {P : Program} (hm : P.follows .mixedOrders = true)
include hm

set_option maxRecDepth 20000 in
set_option maxHeartbeats 8000000 in
theorem ref10_Shells_ok {f fc fs : FuncId} (hf : FnOk P f (ref10_Shells.c fc fs) ref10_Shells.r ref10_Shells.n) (hc : CheckC P fc) (hs : SpreadFC P fs) : ShellsC P f := by
  intro m
  by_cases hz : m.check = 0
  case neg =>
    have he : m.shells = [] := by simp [Mesh.shells, hz]
    rw [he]
    refine CallIs.res (r := .nil) ?_ lsV_nil
    refine PureC.is (pure_of hm hf (Nat.le_of_ble_eq_true rfl) ?_) rfl
    unfold ref10_Shells.c
    simp [go_sem, Mesh.enc, Mesh.cs]
    refine ACall_is (hc m) ?_
    simp [go_sem, hz, ref10_Shells.r]
  have hl := (Mesh.check_zero.1 hz).2.1
  have hR : ∀ L, IsLab m.tris L → m.shells = shsK L L.length := fun L hL => by unfold Mesh.shells; rw [if_pos hz, labOf_eq hL]
  refine PureC.is (pure_ofF hm hf (Nat.le_of_ble_eq_true rfl) ?_) rfl
  unfold ref10_Shells.c
  have hpre := pre_id m.tris
  have hidl : ∀ n, (List.range n).map (fun (j : Nat) => (j : Int)) = idL n := fun _ => rfl
  rw [hidl] at hpre
  simp [go_sem, Mesh.enc, Mesh.cs, tsV]
  refine ACall_is (hc m) ?_
  simp [go_sem, hz]
  refine AS_loopG [.t 3 1] (α := Nat) (fun k => k ≤ m.tris.length)
    (fun k => ⟨[(1, .p 0 1 0 0), (3, .own 1 (k + 1) 0 k), (15, .i .i64 m.tris.length), (16, .i .i64 k)], [.arr 1 2 [m.cs], .arr (k + 1) 1 (ics (idL k))]⟩)
    (fun k => m.tris.length - k) 0 (Nat.zero_le _) ?_ ?_
  · simp [go_sem, Mesh.cs, vsV, tsV, idL, ics]
  · intro k hk
    by_cases hkl : k = m.tris.length
    · subst hkl
      have hil := idL_len m.tris.length
      simp [go_sem, Mesh.cs]
      generalize idL m.tris.length = I at *
      refine AS_loop (α := Option (List Int × Bool)) (fun x => match x with | none => True | some (L, ag) => PreLab m.tris L ∧ (ag = false → IsLab m.tris L))
        (fun x => match x with
          | none => ⟨[(1, .p 0 1 0 0), (3, .own 1 (m.tris.length + 1) 0 m.tris.length), (5, .b true)], [.arr 1 2 [m.cs], .arr (m.tris.length + 1) 1 (ics I)]⟩
          | some (L, ag) => ⟨[(1, .p 0 1 0 0), (3, isV L), (5, .b ag)], [.arr 1 2 [m.cs], .dead]⟩)
        (fun x => match x with | none => sumN I + 2 | some (L, true) => sumN L + 1 | some (L, false) => 0) none trivial ?_ ?_
      · simp [go_sem, Mesh.cs, vsV, tsV]
        exact ics_cl _ _
      · rintro (_ | ⟨L, ag⟩) hx
        · have hsp := sprK_ok hpre
          have hs1 := hs m I hz hpre
          have hps := hpre.spread hsp
          have hsl := sum_le hpre hsp
          have hfix : sprK m.tris I m.tris.length = I → IsLab m.tris I := fun h => Spread.fix hpre (by rw [h] at hsp; exact hsp)
          generalize sprK m.tris I m.tris.length = K at *
          simp [go_sem, Mesh.cs]
          have hfz : frz [O.arr 1 2 [[vsV m.verts, tsV m.tris]], .arr (m.tris.length + 1) 1 (ics I)] (.own 1 (m.tris.length + 1) 0 m.tris.length) = some (isV I) := frz_own rfl (by simp [ics, hil]) (ics_isD I)
          refine ACall_frz (vs := [m.enc, isV I]) ?_ hs1 ?_
          · unfold frzAll
            simp only [List.mapM_cons, List.mapM_nil, hfz]
            rfl
          simp [go_sem]
          by_cases hKI : K = I
          · refine ⟨some (K, false), ⟨hps, fun _ => by rw [hKI]; exact hfix hKI⟩, ?_, ?_⟩
            · simp only; omega
            · simp [go_sem, hKI, killL, vsV, tsV, isV, Mesh.cs]
          · refine ⟨some (K, true), ⟨hps, fun h => by cases h⟩, ?_, ?_⟩
            · simp only; omega
            · simp [go_sem, hKI, killL, vsV, tsV, isV, Mesh.cs]
        · obtain ⟨hL, hlab⟩ := hx
          cases ag
          · have hLab := hlab rfl
            rw [hR L hLab]
            have hLl := hLab.len
            simp [go_sem, Mesh.cs, isV]
            refine AS_loopG [.t 6 1] (α := Nat × List O × List (List V)) (fun p => p.1 ≤ L.length ∧ Held 3 p.2.1 (shsK L p.1) p.2.2 ∧ Flt p.2.1 ∧ (shsK L p.1).length ≤ p.1)
              (fun p => ⟨[(3, isV L), (6, .own 2 ((shsK L p.1).length + 1) 0 (shsK L p.1).length), (31, isV L), (32, .i .i64 L.length), (33, .i .i64 p.1)],
                .dead :: .dead :: .arr ((shsK L p.1).length + 1) 1 p.2.2 :: p.2.1⟩)
              (fun p => L.length - p.1) (0, [], []) ⟨Nat.zero_le _, Held.nil 3, by simp [Flt], by simp [shsK]⟩ ?_ ?_
            · simp [go_sem, isV, shsK]
            · rintro ⟨k, hx, cells⟩ ⟨hk, hH, hF, hkl⟩
              simp only at hk hH hF hkl ⊢
              by_cases hkl : k = L.length
              · subst hkl
                have hfz := held_if (base := [.dead, .dead, .arr ((shsK L L.length).length + 1) 1 cells]) hH rfl
                simp only [List.cons_append, List.nil_append] at hfz
                generalize shsK L L.length = D at *
                simp [go_sem, isV, ref10_Shells.r, DoneF_r]
                rw [hfz]; rfl
              · have hlt : k < L.length := by omega
                have hp : L[k]? = some L[k] := List.getElem?_eq_getElem hlt
                have hst := shsK_succ L k
                have hlow := shK_low hLab k
                generalize hv : L[k] = v at hp
                obtain ⟨_, hp'⟩ := List.getElem?_eq_some_iff.1 hp
                rw [hp] at hst
                by_cases hvk : v = k
                · rw [if_pos (by rw [hvk])] at hst
                  simp (disch := omega) [go_sem, isV, hlt, hp, hp', hvk, wrap64_small]
                  refine AS_loopG [.t 8 1] (α := Nat) (fun j => k ≤ j ∧ j ≤ L.length)
                    (fun j => ⟨[(3, isV L), (6, .own 2 ((shsK L k).length + 1) 0 (shsK L k).length), (7, .i .i64 k), (8, .own (hx.length + 3) ((shK L k j).length + 1) 0 (shK L k j).length), (9, .i .i64 j), (31, isV L), (32, .i .i64 L.length), (33, .i .i64 k)],
                      .dead :: .dead :: .arr ((shsK L k).length + 1) 1 cells :: (hx ++ [.arr ((shK L k j).length + 1) 1 (ics (shK L k j))])⟩)
                    (fun j => L.length - j) k ⟨Nat.le_refl _, by omega⟩ ?_ ?_
                  · rw [hlow]
                    simp [go_sem, isV, ics]
                    exact ⟨hH.cl (by omega), WeakH_app (fun o ho => hF o ho _) (by simp [go_sem])⟩
                  · rintro j ⟨hj1, hj2⟩
                    by_cases hjl : j = L.length
                    · subst hjl
                      generalize shK L k L.length = w at *
                      generalize hls : shsK L k = ls at *
                      have htc : List.take ls.length cells = cells := List.take_of_length_le (by rw [hH.1]; exact Nat.le_refl _)
                      have e4 : hx.length + 3 = 3 + hx.length := by omega
                      have hHs : Held 3 (hx ++ [.arr (w.length + 1) 1 (ics w)]) (ls ++ [w]) (cells ++ [[.own (hx.length + 3) (w.length + 1) 0 w.length]]) := by
                        rw [e4]
                        exact (hH.app _).snoc (by rw [app_get_0]; rfl)
                      have hFs : Flt (hx ++ [.arr (w.length + 1) 1 (ics w)]) := hF.app fun o ho n => by
                        simp at ho
                        subst ho
                        exact ics_cl w n
                      simp (disch := omega) [go_sem, isV, wrap64_small, app_get_r, app_get_0, htc]
                      refine ⟨⟨by have := hH.1; omega, by omega, by omega⟩, k + 1, hx ++ [.arr (w.length + 1) 1 (ics w)], _, ⟨by omega, by rw [hst]; exact hHs, hFs, by rw [hst]; simp only [List.length_append, List.length_cons, List.length_nil]; omega⟩, by omega, by simp, ⟨by rw [hst]; simp, by simp⟩, ⟨⟨by rw [hst]; simp, rfl⟩, hHs.cl (by simp; omega)⟩, ?_⟩
                      have := hFs.WeakH (l := [O.arr 1 1 [[V.own (hx.length + 3) (w.length + 1) 0 w.length]]]) ((hx ++ [O.arr (w.length + 1) 1 (ics w)]).length + 1 + 1 + 1)
                      rwa [List.append_assoc] at this
                    · have hjt : j < L.length := by omega
                      have hq : L[j]? = some L[j] := List.getElem?_eq_getElem hjt
                      have hss := shK_succ L k j
                      generalize L[j] = u at hq
                      obtain ⟨_, hq'⟩ := List.getElem?_eq_some_iff.1 hq
                      rw [hq] at hss
                      have hwl : (shK L k j).length ≤ j := by
                        unfold shK
                        rw [List.length_map]
                        have := List.length_filter_le (fun j => decide (L[j]? = some (k : Int))) (List.range j)
                        simpa using this
                      have htw : List.take (shK L k j).length (ics (shK L k j)) = ics (shK L k j) := List.take_of_length_le (by simp [ics])
                      have hwi : (shK L k j).length ≤ (ics (shK L k j)).length := by simp [ics]
                      by_cases huk : u = k
                      · rw [if_pos (by rw [huk])] at hss
                        have hics : ics (shK L k (j + 1)) = ics (shK L k j) ++ [[.i .i64 (j : Int)]] := by rw [hss]; simp [ics]
                        have hsl : (shK L k (j + 1)).length = (shK L k j).length + 1 := by rw [hss]; simp
                        generalize hw : shK L k j = w at *
                        simp (disch := omega) [go_sem, isV, hjt, hq, hq', huk, wrap64_small, app_get_r, app_get_0, htw, hwi]
                        refine ⟨⟨by omega, by omega⟩, j + 1, ⟨by omega, by omega⟩, by omega, ⟨hsl.symm, by simp⟩, hH.cl (by omega), ?_⟩
                        rw [hics, hsl]
                        exact WeakH_app (fun o ho => hF o ho _) ⟨.inr ⟨rfl, by rw [← hics]; exact ics_cl _ _⟩, trivial⟩
                      · rw [if_neg (by simpa using huk), List.append_nil] at hss
                        generalize hw : shK L k j = w at *
                        simp (disch := omega) [go_sem, isV, hjt, hq, hq', huk, wrap64_small, app_get_r, app_get_0]
                        refine ⟨j + 1, ⟨by omega, by omega⟩, by omega, ⟨by rw [hss], by simp⟩, hH.cl (by omega), ?_⟩
                        rw [hss]
                        exact WeakH_app (fun o ho => hF o ho _) ⟨.inr ⟨rfl, ics_cl _ _⟩, trivial⟩
                · rw [if_neg (by simpa using hvk), List.append_nil] at hst
                  have hvb : (v != (k : Int)) = true := by simpa using hvk
                  simp (disch := omega) [go_sem, isV, hlt, hp, hp', hvk, hvb, wrap64_small]
                  exact ⟨k + 1, hx, cells, ⟨by omega, by rw [hst]; exact hH, hF, by rw [hst]; omega⟩, by omega, Nat.le_refl _, ⟨by rw [hst], by simp⟩, ⟨⟨by rw [hst], rfl⟩, hH.cl (by omega)⟩, hF.WeakH' _⟩
          · have hsp := sprK_ok hL
            have hs1 := hs m L hz hL
            have hps := hL.spread hsp
            have hsl := fun h => hsp.sum hL h
            have hfix : sprK m.tris L m.tris.length = L → IsLab m.tris L := fun h => Spread.fix hL (by rw [h] at hsp; exact hsp)
            generalize sprK m.tris L m.tris.length = K at *
            simp [go_sem, Mesh.cs]
            refine ACall_is hs1 ?_
            simp [go_sem]
            by_cases hKI : K = L
            · refine ⟨some (K, false), ⟨hps, fun _ => by rw [hKI]; exact hfix hKI⟩, ?_, ?_⟩
              · simp only; omega
              · simp [go_sem, hKI, vsV, tsV, isV, Mesh.cs]
            · refine ⟨some (K, true), ⟨hps, fun h => by cases h⟩, ?_, ?_⟩
              · have := hsl hKI; simp only; omega
              · simp [go_sem, hKI, vsV, tsV, isV, Mesh.cs]
    · have hlt : k < m.tris.length := by omega
      have hil := idL_len k
      have hsu := idL_succ k
      have htk : List.take k (ics (idL k)) = ics (idL k) := List.take_of_length_le (by simp [ics, hil])
      have hic : ics (idL (k + 1)) = ics (idL k) ++ [[.i .i64 (k : Int)]] := by rw [hsu]; simp [ics]
      generalize idL k = I at *
      simp (disch := omega) [go_sem, Mesh.cs, hlt, wrap64_small, htk]
      exact ⟨⟨by simp [ics, hil], by omega, by omega⟩, k + 1, by omega, by omega, ⟨rfl, by simp⟩, ⟨rfl, rfl⟩, ⟨rfl, hic.symm⟩, ics_cl _ _⟩
end
end Go.Abs

set_option linter.unusedVariables false
set_option linter.unusedSimpArgs false
namespace Go.Abs
open Go.RowKit Go.Sort Go.Proofs Go.Shelf

def sortZ (xs : List Int) : List Int := xs.mergeSort fun x y => decide (x ≤ y)
def SortIC (P : Program) (f : FuncId) : Prop := ∀ (h : List O) (id gen : Nat) (xs : List Int), xs.length < 4611686018427387904 → h[id]? = some (.arr gen 1 (xs.map fun x => [.i .i64 x])) →
  ACall P f [.own id gen 0 xs.length] h (fun r h' => r = .t [] ∧ h' = h.set id (.arr gen 1 ((sortZ xs).map fun x => [.i .i64 x])))

set_option maxHeartbeats 1000000 in
theorem sortI_ok {P : Program} {ρ : Ren} (L : SlLaysM.n5 P ρ) : SortIC P (ρ.f 5) := by
  intro h id gen xs hlen ho J m w cargs hr hp
  have hsl0 : (sortZ xs).length = xs.length := by simp [sortZ]
  obtain ⟨s, rfl⟩ : ∃ s, cargs = [s] := by
    have := hp.1
    match cargs, this with
    | [s], _ => exact ⟨s, rfl⟩
  have h1 : RV J m w (.own id gen 0 xs.length) s := hp.head
  obtain ⟨_, e, he, _, hsl⟩ := h1
  have hobj := hr.obj id e _ he ho
  simp only [RO] at hobj
  obtain ⟨q1, q2, q3, q4⟩ := hobj
  have hsl := hsl q1.symm
  have hset : m.set id e = m := list_set_self he
  have hnone : ∀ p cap, s = .slice p 0 cap → xs.length = 0 → Calls P (ρ.f 5) [s].toArray w fun e w' => ∃ v r h' J' m', e = .returned v ∧ (r = .t [] ∧ h' = h.set id (.arr gen 1 ((sortZ xs).map fun x => [.i .i64 x]))) ∧ RV J' m' w' r v ∧ RS J' h' m' w' ∧ (∀ n, Ev n J m w J' m' w') ∧ Ml m m' := by
    rintro p cap rfl hx
    have hx' : xs = [] := List.eq_nil_of_length_eq_zero hx
    have hd : sortZ xs = [] := List.eq_nil_of_length_eq_zero (by rw [hsl0]; exact hx)
    have hh : h.set id (.arr gen 1 ((sortZ xs).map fun x => [.i .i64 x])) = h := by
      rw [hd]; rw [hx'] at ho; exact list_set_self ho
    refine (AnyM.slices_Sort_int_none L p cap w).mono ?_
    rintro e' w' ⟨rfl, rfl⟩
    exact ⟨_, .t [], _, J, m, rfl, ⟨rfl, rfl⟩, ⟨#[], rfl, Pw.nil⟩, by rw [hh]; exact hr, fun n => Ev.refl n J m _, Ml.refl m⟩
  unfold Ent.sl at hsl
  cases hb : e.blk with
  | none =>
    rw [hb] at hsl
    obtain ⟨_, hl0, hs⟩ := hsl
    rw [hl0] at hnone
    rcases hs with rfl | ⟨a, rfl⟩
    · exact hnone none 0 rfl rfl
    · exact hnone (some a) 0 rfl rfl
  | some B =>
    rw [hb] at hsl q4
    obtain ⟨o, c, rfl, ⟨hc1, hc2⟩, hoo⟩ := hsl
    by_cases hx : xs.length = 0
    · exact hnone (some ⟨B, o, none⟩) c (by rw [hx]) hx
    obtain ⟨r1, r2, cc, ty, fz, r3, r4, r5, r6⟩ := q4
    have hwB : B < w.heap.size := (Array.getElem?_eq_some_iff.1 r3).1
    have ho' : o = e.base := by have := hoo (by omega); simpa [q2] using this
    have hcell : ∀ i, (hi : i < xs.length) → cc[e.base + i]? = some (Value.int .i64 xs[i]) := by
      intro i hi
      obtain ⟨cv, t1, t2⟩ := r6 i [.i .i64 xs[i]] 0 (.i .i64 xs[i]) (by simp [hi]) rfl
      rw [Nat.mul_one, Nat.add_zero] at t1
      rw [t1, int_of (RV_of_RC t2)]
    have hH : Holds (Value.int .i64) w B o xs.toArray := by
      intro t ht
      have ht' : t < xs.length := by simpa using ht
      have hc := hcell t ht'
      refine ⟨?_, ?_⟩
      · unfold World.cell?
        simp only [r3, ho', hc, Option.isSome_none, Bool.false_eq_true, if_false]
        rw [getElem!_pos _ _ (by simpa using ht')]; simp
      · unfold World.frozen?
        simp only [r3]
        have hlt := (Array.getElem?_eq_some_iff.1 hc).1
        have := r5 (o + t) (by rw [ho']; exact hlt)
        cases fz
        simpa using this
    refine (AnyM.slices_Sort_int L B o c xs w hH hwB hlen).mono ?_
    rintro e' w' ⟨rfl, n, os, hw⟩
    have hH2 : Holds (Value.int .i64) (Go.Sort.ahead w n) B o xs.toArray := hH
    have hF := holds_putRow (Value.int .i64) (Go.Sort.ahead w n) B o xs.toArray (sortZ xs).toArray hH2 (by simp [hsl0])
    have hheap : w'.heap = (w.heap.modify B (onCells (putCells (Value.int .i64) o (sortZ xs).toArray))) ++ os := by rw [hw]; rfl
    have hsz : w'.heap.size = w.heap.size + os.size := by rw [hheap]; simp
    have hBn : w'.heap[B]? = some (.cells (putCells (Value.int .i64) o (sortZ xs).toArray cc) ty fz) := by
      rw [hheap, Array.getElem?_append_left (by simpa using hwB), Array.getElem?_modify, if_pos rfl, r3]; rfl
    have hoth : ∀ q, q < w.heap.size → e.blk ≠ some q → w'.heap[q]? = w.heap[q]? := by
      intro q hq hne
      have : B ≠ q := fun hh => hne (by rw [hb, hh])
      rw [hheap, Array.getElem?_append_left (by simpa using hq), Array.getElem?_modify, if_neg this]
    have hos : w'.os = w.os := by rw [hw]; rfl
    have htp : w'.tape = w.tape := by rw [hw]; rfl
    have hou : w'.output = w.output := by rw [hw]; rfl
    have hdr : w.drawn ≤ w'.drawn := by rw [hw]; exact Nat.le_add_right _ _
    refine ⟨_, .t [], _, J, m, rfl, ⟨rfl, rfl⟩, ⟨#[], rfl, Pw.nil⟩, ?_, ?_, Ml.refl m⟩
    · have := RS.upd hr e (.arr gen 1 ((sortZ xs).map fun x => [.i .i64 x])) he (Nat.le_refl _) (fun _ => rfl) (fun B' hB' => ⟨.inl hB', by have := (hr.dis id e B' he hB').2; omega⟩) hoth (by omega) ?_
      · rw [hset] at this; exact this
      · rw [hset]
        simp only [RO]
        refine ⟨q1, q2, ?_, ?_⟩
        · intro i el hi
          simp at hi
          obtain ⟨a, _, rfl⟩ := hi
          rfl
        · rw [hb]
          refine ⟨?_, r2, _, ty, fz, hBn, by simp [putCells, r4], by simpa [putCells] using r5, ?_⟩
          · simp [hsl0] at r1 ⊢; omega
          · intro i el j x hi hj
            simp only [List.getElem?_map, Option.map_eq_some_iff] at hi
            obtain ⟨a, ha, rfl⟩ := hi
            obtain ⟨hil, rfl⟩ := List.getElem?_eq_some_iff.1 ha
            have hj0 : j = 0 := by
              have := (List.getElem?_eq_some_iff.1 hj).1
              simp at this; exact this
            subst hj0
            simp at hj
            subst hj
            have hcl := (hF i (by simpa using hil)).1
            unfold World.cell? at hcl
            have hBp : (putRow (Value.int .i64) (Go.Sort.ahead w n) B o (sortZ xs).toArray).heap[B]? = some (.cells (putCells (Value.int .i64) o (sortZ xs).toArray cc) ty fz) := by
              show (w.heap.modify B (onCells (putCells (Value.int .i64) o (sortZ xs).toArray)))[B]? = _
              rw [Array.getElem?_modify, if_pos rfl, r3]; rfl
            simp only [hBp, Option.isSome_none, Bool.false_eq_true, if_false] at hcl
            refine ⟨_, ?_, RC_of_RD (.i .i64 _)⟩
            rw [Nat.mul_one, Nat.add_zero, ← ho', hcl]
            rw [getElem!_pos _ i (by simpa using hil)]
            simp
    · intro n'
      have := Ev.upd (n := n') (J := J) e he (Nat.le_refl _) (fun _ => rfl) (fun B' hB' => .inl hB') hoth (by omega) hos htp hou hdr
      rw [hset] at this; exact this
end Go.Abs

set_option linter.unusedVariables false
set_option linter.unusedSimpArgs false
namespace Go.Abs

theorem lab_ex (ts : List T3) : ∃ L, IsLab ts L := by
  have key : ∀ (n : Nat) (L : List Int), PreLab ts L → sumN L < n → ∃ K, IsLab ts K := by
    intro n
    induction n with
    | zero => intro L _ h; omega
    | succ n ih =>
      intro L hL hn
      by_cases h : sprK ts L ts.length = L
      · exact ⟨L, Spread.fix hL (by have := sprK_ok hL; rwa [h] at this)⟩
      · have := (sprK_ok hL).sum hL h
        exact ih _ (hL.spread (sprK_ok hL)) (by omega)
  exact key (sumN ((List.range ts.length).map fun (j : Nat) => (j : Int)) + 1) _ (pre_id ts) (by omega)
theorem IsLab.conn_iff {ts : List T3} {L : List Int} (h : IsLab ts L) {i j : Nat} (hi : i < ts.length) (hj : j < ts.length) : Conn ts i j ↔ L[i]? = L[j]? := by
  constructor
  · exact h.conn
  · intro he
    have h1 : L[i]? = some (L[i]'(by rw [h.len]; exact hi)) := List.getElem?_eq_getElem _
    have h2 := h1
    rw [he] at h2
    exact ((h.con i _ h1).2.2).trans ((h.con j _ h2).2.2).symm

/-- The triangles at an edge. -/
def usL (Q : List (P2 × Int)) (e : P2) : List Int := (Q.filter fun p => decide (p.1 = e)).map Prod.snd
theorem usL_snoc (Q : List (P2 × Int)) (p : P2 × Int) (e : P2) : usL (Q ++ [p]) e = if p.1 = e then usL Q e ++ [p.2] else usL Q e := by
  unfold usL
  rw [List.filter_append, List.map_append]
  by_cases h : p.1 = e <;> simp [h]
theorem mem_usL {Q : List (P2 × Int)} {e : P2} {v : Int} : v ∈ usL Q e ↔ (e, v) ∈ Q := by
  unfold usL
  rw [List.mem_map]
  constructor
  · rintro ⟨p, hp, rfl⟩
    have h := List.mem_filter.1 hp
    have h2 : p.1 = e := by simpa using h.2
    subst h2; exact h.1
  · intro h
    exact ⟨(e, v), List.mem_filter.2 ⟨h, by simp⟩, rfl⟩
theorem usL_len (Q : List (P2 × Int)) (e : P2) : (usL Q e).length ≤ Q.length := by
  unfold usL; rw [List.length_map]; exact List.length_filter_le _ _
/-- The pairs of edges and triangles. -/
def allP (ts : List T3) (k : Nat) : List (P2 × Int) := (List.range k).flatMap fun i => (edgesOf (tAt ts i)).map fun e => (e.und, (i : Int))
theorem allP_succ (ts : List T3) (k : Nat) : allP ts (k + 1) = allP ts k ++ (edgesOf (tAt ts k)).map fun e => (e.und, (k : Int)) := by
  unfold allP; rw [List.range_succ, List.flatMap_append]; simp
theorem allP_len (ts : List T3) (k : Nat) : (allP ts k).length ≤ 3 * k := by
  induction k with
  | zero => simp [allP]
  | succ k ih =>
    rw [allP_succ, List.length_append, List.length_map]
    have : (edgesOf (tAt ts k)).length ≤ 3 := edgesK_le _ 3
    omega
theorem tAt_get {ts : List T3} {i : Nat} (h : i < ts.length) : ts[i]? = some (tAt ts i) := by unfold tAt; rw [List.getElem?_eq_getElem h]; rfl
theorem mem_allP {ts : List T3} {e : P2} {v : Int} : (e, v) ∈ allP ts ts.length ↔ ∃ j, j < ts.length ∧ v = (j : Int) ∧ ∃ a ∈ edgesOf (tAt ts j), a.und = e := by
  unfold allP
  rw [List.mem_flatMap]
  constructor
  · rintro ⟨j, hj, h⟩
    obtain ⟨a, ha, h2⟩ := List.mem_map.1 h
    simp only [Prod.mk.injEq] at h2
    exact ⟨j, List.mem_range.1 hj, h2.2.symm, a, ha, h2.1⟩
  · rintro ⟨j, hj, rfl, a, ha, rfl⟩
    exact ⟨j, List.mem_range.2 hj, List.mem_map.2 ⟨a, ha, rfl⟩⟩
theorem adj_us {ts : List T3} {i j : Nat} (hi : i < ts.length) : adjI ts i j ↔ ∃ e ∈ edgesOf (tAt ts i), (j : Int) ∈ usL (allP ts ts.length) e.und := by
  constructor
  · rintro ⟨s, t, hs, ht, a, ha, b, hb, hab⟩
    have hj := (List.getElem?_eq_some_iff.1 ht).1
    rw [tAt_get hi] at hs
    rw [tAt_get hj] at ht
    obtain rfl := Option.some.inj hs
    obtain rfl := Option.some.inj ht
    exact ⟨a, ha, mem_usL.2 (mem_allP.2 ⟨j, hj, rfl, b, hb, hab.symm⟩)⟩
  · rintro ⟨a, ha, h⟩
    obtain ⟨j', hj, hjj, b, hb, hab⟩ := mem_allP.1 (mem_usL.1 h)
    obtain rfl : j = j' := by omega
    exact ⟨_, _, tAt_get hi, tAt_get hj, a, ha, b, hb, hab.symm⟩

/-- A part of a shell, and what was found before. -/
structure Part (ts : List T3) (D S : List Int) (i : Nat) : Prop where
  nodup : (D ++ S).Nodup
  mem : ∀ v ∈ S, 0 ≤ v ∧ Conn ts i v.toNat
  start : (i : Int) ∈ S
structure Old (ts : List T3) (L : List Int) (D : List Int) (i : Nat) : Prop where
  nodup : D.Nodup
  iff : ∀ v : Int, v ∈ D ↔ ∃ j : Nat, v = (j : Int) ∧ j < ts.length ∧ ∃ u, L[j]? = some u ∧ u < i
theorem Part.one {ts : List T3} {L D : List Int} {i : Nat} (h : Old ts L D i) (hi : i < ts.length) (hn : (i : Int) ∉ D) : Part ts D [(i : Int)] i := by
  refine ⟨?_, fun v hv => ?_, by simp⟩
  · rw [List.nodup_append]
    exact ⟨h.nodup, by simp, fun a ha b hb => by simp at hb; subst hb; rintro rfl; exact hn ha⟩
  · simp at hv; subst hv
    exact ⟨by omega, by rw [Int.toNat_natCast]; exact .refl hi⟩
theorem Part.add {ts : List T3} {D S : List Int} {i : Nat} (h : Part ts D S i) {v u : Int} (hv : v ∈ S) (hu : 0 ≤ u) (hadj : adjI ts v.toNat u.toNat) (hn : u ∉ D ++ S) : Part ts D (S ++ [u]) i := by
  refine ⟨?_, fun w hw => ?_, by simp [h.start]⟩
  · rw [← List.append_assoc, List.nodup_append]
    exact ⟨h.nodup, by simp, fun a ha b hb => by simp at hb; subst hb; rintro rfl; exact hn ha⟩
  · rcases List.mem_append.1 hw with h1 | h1
    · exact h.mem w h1
    · simp at h1; subst h1
      exact ⟨hu, .tail (h.mem v hv).2 hadj⟩
theorem Part.all {ts : List T3} {L D S : List Int} {i : Nat} (hL : IsLab ts L) (hD : Old ts L D i) (h : Part ts D S i) (hi : i < ts.length) (hLi : L[i]? = some (i : Int))
    (hc : ∀ v ∈ S, ∀ j : Nat, adjI ts v.toNat j → (j : Int) ∈ D ++ S) : ∀ v : Int, v ∈ S ↔ v ∈ shK L i ts.length := by
  have hnd : ∀ j : Nat, Conn ts i j → (j : Int) ∉ D := by
    intro j hj hd
    obtain ⟨j', h1, h2, u, h3, h4⟩ := (hD.iff _).1 hd
    obtain rfl : j = j' := by omega
    have := hL.conn hj
    rw [hLi, h3] at this
    have := Option.some.inj this
    omega
  have hclo : ∀ j, Conn ts i j → (j : Int) ∈ S := by
    intro j hj
    generalize hii : i = i' at hj
    induction hj with
    | refl _ => subst hii; exact h.start
    | tail h1 h2 ih =>
      subst hii
      have := hc _ ih _ (by rw [Int.toNat_natCast]; exact h2)
      rcases List.mem_append.1 this with h3 | h3
      · exact absurd h3 (hnd _ (.tail h1 h2))
      · exact h3
  intro v
  unfold shK
  rw [List.mem_map]
  constructor
  · intro hv
    obtain ⟨h1, h2⟩ := h.mem v hv
    have hlt := h2.lt.2
    refine ⟨v.toNat, List.mem_filter.2 ⟨List.mem_range.2 hlt, ?_⟩, by omega⟩
    have := hL.conn h2
    rw [hLi] at this
    simpa using this.symm
  · rintro ⟨j, hj, rfl⟩
    have hf := List.mem_filter.1 hj
    have hjl := List.mem_range.1 hf.1
    have hLj : L[j]? = some (i : Int) := by simpa using hf.2
    exact hclo j ((hL.conn_iff hi hjl).2 (by rw [hLi, hLj]))
theorem sort_shK {L S : List Int} {i n : Nat} (hn : S.Nodup) (hm : ∀ v : Int, v ∈ S ↔ v ∈ shK L i n) : sortZ S = shK L i n := by
  have hsh : (shK L i n).Pairwise fun a b => a < b := by
    unfold shK
    rw [List.pairwise_map]
    have h1 : (List.range n).Pairwise (fun a b : Nat => a < b) := List.pairwise_lt_range
    exact (h1.filter _).imp fun {a b : Nat} (h : a < b) => by show (a : Int) < (b : Int); omega
  have hso : (sortZ S).Pairwise fun a b => a ≤ b := by
    have := List.pairwise_mergeSort (le := fun x y : Int => decide (x ≤ y)) (fun a b c h1 h2 => by simp at *; omega) (fun a b => by simp; omega) S
    exact this.imp fun {a b} h => by simpa using h
  have hp : (sortZ S).Perm S := List.mergeSort_perm _ _
  have hnd : (sortZ S).Nodup := hp.nodup_iff.2 hn
  have hlt : (sortZ S).Pairwise fun a b => a < b := by
    rw [List.nodup_iff_pairwise_ne] at hnd
    exact (hso.and hnd).imp fun {a b} h => by obtain ⟨h1, h2⟩ := h; omega
  have hmm : ∀ v, v ∈ sortZ S ↔ v ∈ shK L i n := fun v => by rw [hp.mem_iff, hm]
  generalize sortZ S = A at *
  generalize shK L i n = B at *
  clear hp hnd hso hm hn
  induction A generalizing B with
  | nil =>
    cases B with
    | nil => rfl
    | cons b B => have := (hmm b).2 (by simp); simp at this
  | cons a A ih =>
    cases B with
    | nil => have := (hmm a).1 (by simp); simp at this
    | cons b B =>
      obtain ⟨a1, a2⟩ := List.pairwise_cons.1 hlt
      obtain ⟨b1, b2⟩ := List.pairwise_cons.1 hsh
      have hab : a = b := by
        rcases List.mem_cons.1 ((hmm a).1 (by simp)) with h | h
        · exact h
        · rcases List.mem_cons.1 ((hmm b).2 (by simp)) with h' | h'
          · exact h'.symm
          · have := b1 a h
            have := a1 b h'
            omega
      subst hab
      rw [ih a2 B b2 fun v => ?_]
      constructor
      · intro hv
        rcases List.mem_cons.1 ((hmm v).1 (by simp [hv])) with h | h
        · subst h; have := a1 v hv; omega
        · exact h
      · intro hv
        rcases List.mem_cons.1 ((hmm v).2 (by simp [hv])) with h | h
        · subst h; have := b1 v hv; omega
        · exact h
theorem Old.next {ts : List T3} {L D S : List Int} {i : Nat} (hL : IsLab ts L) (hD : Old ts L D i) (h : (D ++ S).Nodup) (hS : ∀ v : Int, v ∈ S ↔ v ∈ shK L i ts.length) : Old ts L (D ++ S) (i + 1) where
  nodup := h
  iff v := by
    rw [List.mem_append, hD.iff, hS]
    unfold shK
    rw [List.mem_map]
    constructor
    · rintro (⟨j, h1, h2, u, h3, h4⟩ | ⟨j, hj, rfl⟩)
      · exact ⟨j, h1, h2, u, h3, by omega⟩
      · have hf := List.mem_filter.1 hj
        exact ⟨j, rfl, List.mem_range.1 hf.1, i, by simpa using hf.2, by omega⟩
    · rintro ⟨j, rfl, h2, u, h3, h4⟩
      by_cases hu : u < i
      · exact .inl ⟨j, rfl, h2, u, h3, hu⟩
      · have : u = i := by omega
        subst this
        exact .inr ⟨j, List.mem_filter.2 ⟨List.mem_range.2 h2, by simpa using h3⟩, rfl⟩
theorem Old.skip {ts : List T3} {L D : List Int} {i : Nat} (hL : IsLab ts L) (hD : Old ts L D i) (hd : (i : Int) ∈ D) : Old ts L D (i + 1) ∧ L[i]? ≠ some (i : Int) := by
  obtain ⟨j, h1, h2, u, h3, h4⟩ := (hD.iff _).1 hd
  obtain rfl : i = j := by omega
  have hne : L[i]? ≠ some (i : Int) := by rw [h3]; intro hh; have := Option.some.inj hh; omega
  refine ⟨⟨hD.nodup, fun v => ?_⟩, hne⟩
  rw [hD.iff]
  constructor
  · rintro ⟨j, k1, k2, w, k3, k4⟩; exact ⟨j, k1, k2, w, k3, by omega⟩
  · rintro ⟨j, k1, k2, w, k3, k4⟩
    refine ⟨j, k1, k2, w, k3, ?_⟩
    refine Decidable.byContradiction fun hw => ?_
    have hwi : w = i := by omega
    subst hwi
    have := hL.conn ((hL.con j _ k3).2.2)
    rw [k3, Int.toNat_natCast] at this
    exact hne this.symm
theorem Old.own {ts : List T3} {L D : List Int} {i : Nat} (hL : IsLab ts L) (hD : Old ts L D i) (hi : i < ts.length) (hd : (i : Int) ∉ D) : L[i]? = some (i : Int) := by
  have h1 : L[i]? = some (L[i]'(by rw [hL.len]; exact hi)) := List.getElem?_eq_getElem _
  generalize L[i]'(by rw [hL.len]; exact hi) = u at h1
  have h2 := (hL.con i u h1).2.1
  by_cases h : u = i
  · rw [h1, h]
  · exact absurd ((hD.iff _).2 ⟨i, rfl, hi, u, h1, by omega⟩) hd
end Go.Abs

set_option linter.unusedVariables false
set_option linter.unusedSimpArgs false
namespace Go.Abs

def evU (p : Nat × Nat) : V := .own (p.1 + 2) p.2 0 p.2
structure UM (hx : List O) (KJ : List (P2 × (Nat × Nat))) (Q : List (P2 × Int)) : Prop where
  val : ∀ (i : Nat) (k : P2) (j n : Nat), KJ[i]? = some (k, (j, n)) → n = (usL Q k).length ∧ hx[j]? = some (.arr n 1 (ics (usL Q k)))
  dis : ∀ (i i' : Nat) (k k' : P2) (j n n' : Nat), KJ[i]? = some (k, (j, n)) → KJ[i']? = some (k', (j, n')) → i = i'
  key : (KJ.map Prod.fst).Nodup
  none : ∀ e, fndG e KJ = none → usL Q e = []
theorem UM.nil : UM [] [] [] := ⟨by simp, by simp, by simp, by simp [usL]⟩
theorem UM.app {hx : List O} {KJ : List (P2 × (Nat × Nat))} {Q : List (P2 × Int)} (h : UM hx KJ Q) (l : List O) : UM (hx ++ l) KJ Q :=
  ⟨fun i k j n hi => by obtain ⟨h1, h2⟩ := h.val i k j n hi; exact ⟨h1, by rw [List.getElem?_append_left (List.getElem?_eq_some_iff.1 h2).1]; exact h2⟩, h.dis, h.key, h.none⟩
theorem UM.new {hx : List O} {KJ : List (P2 × (Nat × Nat))} {Q : List (P2 × Int)} (h : UM hx KJ Q) {e : P2} {v : Int} (he : fndG e KJ = Option.none) {l : List O} {j0 : Nat} (hj : hx.length ≤ j0) (ho : (hx ++ l)[j0]? = some (.arr 1 1 (ics [v]))) :
    UM (hx ++ l) (KJ ++ [(e, (j0, 1))]) (Q ++ [(e, v)]) := by
  have hn := h.none e he
  have hk := fndG_none.1 he
  have hval : ∀ (i : Nat) (k : P2) (j n : Nat), (KJ ++ [(e, (j0, 1))])[i]? = some (k, (j, n)) → (i < KJ.length ∧ KJ[i]? = some (k, (j, n)) ∧ k ≠ e ∧ j < hx.length) ∨ (i = KJ.length ∧ k = e ∧ j = j0 ∧ n = 1) := by
    intro i k j n hi
    by_cases hl : i < KJ.length
    · rw [List.getElem?_append_left hl] at hi
      refine .inl ⟨hl, hi, ?_, (List.getElem?_eq_some_iff.1 (h.val i k j n hi).2).1⟩
      rintro rfl
      exact hk (List.mem_map.2 ⟨_, List.mem_of_getElem? hi, rfl⟩)
    · rw [List.getElem?_append_right (by omega)] at hi
      have h0 : i - KJ.length = 0 := by
        have := (List.getElem?_eq_some_iff.1 hi).1
        simp at this; omega
      rw [h0] at hi
      simp at hi
      exact .inr ⟨by omega, hi.1.symm, hi.2.1.symm, hi.2.2.symm⟩
  refine ⟨fun i k j n hi => ?_, fun i i' k k' j n n' h1 h2 => ?_, ?_, fun a ha => ?_⟩
  · rcases hval i k j n hi with ⟨_, h1, h2, _⟩ | ⟨_, rfl, rfl, rfl⟩
    · have := (h.app l).val i k j n h1
      rw [usL_snoc, if_neg (fun hh => h2 hh.symm)]
      exact this
    · rw [usL_snoc, if_pos rfl, hn]
      exact ⟨rfl, ho⟩
  · rcases hval i k j n h1 with ⟨_, a1, _, a2⟩ | ⟨a1, _, a2, _⟩ <;> rcases hval i' k' j n' h2 with ⟨_, b1, _, b2⟩ | ⟨b1, _, b2, _⟩
    · exact h.dis i i' k k' j n n' a1 b1
    · omega
    · omega
    · omega
  · rw [List.map_append, List.nodup_append]
    exact ⟨h.key, by simp, fun a ha b hb => by simp at hb; subst hb; rintro rfl; exact hk ha⟩
  · have hne : a ≠ e := by
      rintro rfl
      rw [fndG_app he, if_pos rfl] at ha; simp at ha
    rw [fndG_app he, if_neg hne] at ha
    rw [usL_snoc, if_neg (fun hh => hne hh.symm)]
    exact h.none a ha
theorem UM.old {hx : List O} {KJ : List (P2 × (Nat × Nat))} {Q : List (P2 × Int)} (h : UM hx KJ Q) {e : P2} {v : Int} {p j n : Nat} (he : fndG e KJ = some (p, (j, n))) :
    UM (hx.set j (.arr (n + 1) 1 (ics (usL Q e) ++ [[.i .i64 v]]))) (KJ.set p (e, (j, n + 1))) (Q ++ [(e, v)]) := by
  have hp := fndG_some he
  have hpl := (List.getElem?_eq_some_iff.1 hp).1
  obtain ⟨hn, hj⟩ := h.val p e j n hp
  have hjl := (List.getElem?_eq_some_iff.1 hj).1
  have hval : ∀ (i : Nat) (k : P2) (j' n' : Nat), (KJ.set p (e, (j, n + 1)))[i]? = some (k, (j', n')) → (i ≠ p ∧ KJ[i]? = some (k, (j', n')) ∧ k ≠ e ∧ j' ≠ j) ∨ (i = p ∧ k = e ∧ j' = j ∧ n' = n + 1) := by
    intro i k j' n' hi
    by_cases hip : p = i
    · subst hip
      rw [List.getElem?_set_self hpl] at hi
      simp at hi
      exact .inr ⟨rfl, hi.1.symm, hi.2.1.symm, hi.2.2.symm⟩
    · rw [List.getElem?_set_ne hip] at hi
      refine .inl ⟨fun hh => hip hh.symm, hi, ?_, ?_⟩
      · rintro rfl
        have := fndG_of_get h.key hi
        rw [he] at this
        simp at this
        exact hip this.1
      · rintro rfl
        exact hip (h.dis p i _ _ _ _ _ hp hi)
  refine ⟨fun i k j' n' hi => ?_, fun i i' k k' j' n1 n2 h1 h2 => ?_, ?_, fun a ha => ?_⟩
  · rcases hval i k j' n' hi with ⟨_, h1, h2, h3⟩ | ⟨rfl, rfl, rfl, rfl⟩
    · rw [usL_snoc, if_neg (fun hh => h2 hh.symm), List.getElem?_set_ne (fun hh => h3 hh.symm)]
      exact h.val i k j' n' h1
    · rw [usL_snoc, if_pos rfl, List.getElem?_set_self hjl]
      exact ⟨by rw [hn]; simp, by simp [ics]⟩
  · rcases hval i k j' n1 h1 with ⟨a0, a1, _, a2⟩ | ⟨a1, _, a2, _⟩ <;> rcases hval i' k' j' n2 h2 with ⟨b0, b1, _, b2⟩ | ⟨b1, _, b2, _⟩
    · exact h.dis i i' k k' j' n1 n2 a1 b1
    · exact absurd b2 a2
    · exact absurd a2 b2
    · omega
  · have : (KJ.set p (e, (j, n + 1))).map Prod.fst = KJ.map Prod.fst := by
      rw [List.map_set]
      apply List.ext_getElem?
      intro i
      by_cases hi : p = i
      · subst hi
        rw [List.getElem?_set_self (by simpa using hpl), List.getElem?_map, hp]; rfl
      · rw [List.getElem?_set_ne hi]
    rw [this]; exact h.key
  · rw [fndG_set he] at ha
    split at ha
    · simp at ha
    · rename_i hne
      rw [usL_snoc, if_neg (fun hh => hne hh.symm)]
      exact h.none a ha
theorem UM.cl {hx : List O} {KJ : List (P2 × (Nat × Nat))} {Q : List (P2 × Int)} (h : UM hx KJ Q) {N : Nat} (hN : hx.length + 2 ≤ N) : ∀ e ∈ KJ.map (asG P2.enc evU), e.1.cl N = true ∧ e.2.cl N = true := by
  intro x hx'
  obtain ⟨⟨k, j, n⟩, hm, rfl⟩ := List.mem_map.1 hx'
  obtain ⟨i, hi⟩ := List.getElem?_of_mem hm
  have := (List.getElem?_eq_some_iff.1 (h.val i k j n hi).2).1
  refine ⟨?_, ?_⟩
  · simp [asG, P2.enc, P2.cs, V.cl, V.cl1, V.cl0]
  · simp [asG, evU, V.cl, V.cl1, V.cl0]; omega
theorem Flt.set {hx : List O} (h : Flt hx) {j : Nat} {o : O} (ho : ∀ n, o.cl n) : Flt (hx.set j o) := fun x hx' n => by
  rcases List.mem_or_eq_of_mem_set hx' with h1 | rfl
  · exact h x h1 n
  · exact ho n
end Go.Abs

set_option linter.unusedVariables false
set_option linter.unusedSimpArgs false
namespace Go.Abs

theorem UM.cl2 {hx : List O} {KJ : List (P2 × (Nat × Nat))} {Q : List (P2 × Int)} (h : UM hx KJ Q) {N : Nat} (hN : hx.length + 2 ≤ N) : ∀ (a b : V) (x : P2) (y z : Nat), (x, y, z) ∈ KJ → asG P2.enc evU (x, y, z) = (a, b) → a.cl N = true ∧ b.cl N = true := fun a b x y z hm he => by
  have := h.cl hN (asG P2.enc evU (x, y, z)) (List.mem_map.2 ⟨_, hm, rfl⟩)
  rw [he] at this
  exact this
theorem mcs_cl (m : Mesh) (N : Nat) : ∀ x ∈ m.cs, x.cl N = true := by
  intro x hx
  simp [Mesh.cs] at hx
  rcases hx with rfl | rfl <;> rfl
theorem Flt.one {o : O} (h : ∀ n, o.cl n) : Flt [o] := fun x hx n => by simp at hx; subst hx; exact h n
theorem fe_cl (e : P2) (n : Nat) : (O.arr 1 2 [[V.i .i64 e.x, V.i .i64 e.y]]).cl n := by
  intro el hel x hx
  simp at hel; subst hel
  simp at hx; rcases hx with rfl | rfl <;> rfl

theorem nodup_len {α : Type} [BEq α] [LawfulBEq α] : ∀ {A B : List α}, A.Nodup → (∀ a ∈ A, a ∈ B) → A.length ≤ B.length
  | [], _, _, _ => Nat.zero_le _
  | a :: A, B, h, hs => by
    have h1 := List.nodup_cons.1 h
    have h2 := nodup_len (A := A) (B := B.erase a) h1.2 fun b hb => by
      rw [List.mem_erase_of_ne (by rintro rfl; exact h1.1 hb)]
      exact hs b (by simp [hb])
    rw [List.length_erase_of_mem (hs a (by simp))] at h2
    have := List.length_pos_of_mem (hs a (by simp))
    simp only [List.length_cons]
    omega
theorem Part.len {ts : List T3} {D S : List Int} {i : Nat} (h : Part ts D S i) : S.length ≤ ts.length := by
  have h1 := (List.nodup_append.1 h.nodup).2.1
  have h2 := nodup_len (B := (List.range ts.length).map fun (j : Nat) => (j : Int)) h1 fun v hv => by
    obtain ⟨h0, hc⟩ := h.mem v hv
    exact List.mem_map.2 ⟨v.toNat, List.mem_range.2 hc.lt.2, by omega⟩
  simpa using h2
def BfK (ts : List T3) (D S : List Int) (k : Nat) : Prop := ∀ (k' : Nat) (v : Int), k' < k → S[k']? = some v → ∀ j : Nat, adjI ts v.toNat j → (j : Int) ∈ D ++ S
structure BfI (ts : List T3) (D S : List Int) (i k : Nat) (v : Int) (E : List P2) : Prop where
  part : Part ts D S i
  bk : BfK ts D S k
  at_ : S[k]? = some v
  ed : ∀ e ∈ E, ∀ w ∈ usL (allP ts ts.length) e.und, w ∈ D ++ S
theorem mem_more {D S : List Int} {u w : Int} (h : w ∈ D ++ S) : w ∈ D ++ (S ++ [u]) := by
  rcases List.mem_append.1 h with h | h <;> simp [h]
theorem BfI.add {ts : List T3} {D S : List Int} {i k : Nat} {v u : Int} {E : List P2} (h : BfI ts D S i k v E) (hu : 0 ≤ u) (hadj : adjI ts v.toNat u.toNat) (hn : u ∉ D ++ S) : BfI ts D (S ++ [u]) i k v E := by
  have hk := (List.getElem?_eq_some_iff.1 h.at_).1
  refine ⟨h.part.add (List.mem_of_getElem? h.at_) hu hadj hn, fun k' w hk' hw j hj => ?_, by rw [List.getElem?_append_left hk]; exact h.at_, fun e he w hw => mem_more (h.ed e he w hw)⟩
  rw [List.getElem?_append_left (by omega)] at hw
  exact mem_more (h.bk k' w hk' hw j hj)
theorem BfI.more {ts : List T3} {D S : List Int} {i k : Nat} {v : Int} {E : List P2} (h : BfI ts D S i k v E) {e : P2} (ha : ∀ w ∈ usL (allP ts ts.length) e.und, w ∈ D ++ S) : BfI ts D S i k v (E ++ [e]) :=
  ⟨h.part, h.bk, h.at_, fun e' he w hw => by
    rcases List.mem_append.1 he with h1 | h1
    · exact h.ed e' h1 w hw
    · simp at h1; subst h1; exact ha w hw⟩
theorem BfI.next {ts : List T3} {D S : List Int} {i k : Nat} {v : Int} (h : BfI ts D S i k v (edgesOf (tAt ts v.toNat))) : BfK ts D S (k + 1) := fun k' w hk' hw j hj => by
  by_cases hkk : k' = k
  · subst hkk
    rw [h.at_] at hw
    obtain rfl := Option.some.inj hw
    obtain ⟨e, he, hm⟩ := (adj_us hj.lt.1).1 hj
    exact h.ed e he _ hm
  · exact h.bk k' w (by omega) hw j hj
theorem old0 {ts : List T3} {L : List Int} (hL : IsLab ts L) : Old ts L [] 0 :=
  ⟨by simp, fun v => by
    constructor
    · intro h; simp at h
    · rintro ⟨j, _, _, u, h3, h4⟩
      have := (hL.con j u h3).1
      omega⟩

section
variable {P : Program} (hm : P.follows .mixedOrders = true)
include hm

set_option maxRecDepth 20000 in
set_option maxHeartbeats 8000000 in
theorem topo_Shells_ok {f fc fe fu fs : FuncId} (hf : FnOk P f (topo_Shells.c fc fe fu fs) topo_Shells.r topo_Shells.n) (hc : CheckC P fc) (he : EdgesC P fe) (hu : UndC P fu) (hs : SortIC P fs) : ShellsC P f := by
  intro m
  by_cases hz : m.check = 0
  case neg =>
    have he : m.shells = [] := by simp [Mesh.shells, hz]
    rw [he]
    refine CallIs.res (r := .nil) ?_ lsV_nil
    refine PureC.is (pure_of hm hf (Nat.le_of_ble_eq_true rfl) ?_) rfl
    unfold topo_Shells.c
    simp [go_sem, Mesh.enc, Mesh.cs]
    refine ACall_is (hc m) ?_
    simp [go_sem, hz, topo_Shells.r]
  have hl := (Mesh.check_zero.1 hz).2.1
  obtain ⟨L, hL⟩ := lab_ex m.tris
  have hR : m.shells = shsK L L.length := by unfold Mesh.shells; rw [if_pos hz, labOf_eq hL]
  rw [hR]
  have hLl := hL.len
  refine PureC.is (pure_ofF hm hf (Nat.le_of_ble_eq_true rfl) ?_) rfl
  unfold topo_Shells.c
  simp [go_sem, Mesh.enc, Mesh.cs, tsV]
  refine ACall_is (hc m) ?_
  simp [go_sem, hz]
  refine AS_loop (α := Nat × List O × List (P2 × (Nat × Nat))) (fun p => p.1 ≤ m.tris.length ∧ UM p.2.1 p.2.2 (allP m.tris p.1) ∧ Flt p.2.1)
    (fun p => ⟨[(1, .p 0 1 0 0), (3, .mp 1), (22, tsV m.tris), (23, .i .i64 m.tris.length), (24, .i .i64 p.1)], .arr 1 2 [m.cs] :: .mp (p.2.2.map (asG P2.enc evU)) :: p.2.1⟩)
    (fun p => m.tris.length - p.1) (0, [], []) ⟨Nat.zero_le _, UM.nil, by simp [Flt]⟩ ?_ ?_
  · simp [go_sem, Mesh.cs, vsV, tsV]
  · rintro ⟨i, hx, KJ⟩ ⟨hi, hU, hF⟩
    simp only at hi hU hF ⊢
    by_cases hil : i = m.tris.length
    · subst hil
      simp [go_sem, Mesh.cs, tsV, mk_nil]
      have hmcs : m.cs = [vsV m.verts, .l 3 (m.tris.map T3.cs)] := rfl
      obtain ⟨pre, hpre⟩ : ∃ pre : List (List V) → Nat → List (List V) → List O, pre = fun M g C => .arr 1 2 [m.cs] :: .mp (KJ.map (asG P2.enc evU)) :: (hx ++ [.arr 1 1 M, .arr g 1 C]) := ⟨_, rfl⟩
      obtain ⟨mi, hmi⟩ : ∃ mi, mi = hx.length + 2 := ⟨_, rfl⟩
      obtain ⟨oi, hoi⟩ : ∃ oi, oi = hx.length + 3 := ⟨_, rfl⟩
      obtain ⟨N, hN⟩ : ∃ N, N = hx.length + 4 := ⟨_, rfl⟩
      have plen : ∀ M g C, (pre M g C).length = N := fun M g C => by rw [hpre, hN]; simp
      have f0 : ∀ M g C l, (pre M g C ++ l)[0]? = some (.arr 1 2 [m.cs]) := fun M g C l => by rw [hpre]; rfl
      have f1 : ∀ M g C l, (pre M g C ++ l)[1]? = some (.mp (KJ.map (asG P2.enc evU))) := fun M g C l => by rw [hpre]; rfl
      have fm : ∀ M g C l, (pre M g C ++ l)[mi]? = some (.arr 1 1 M) := fun M g C l => by rw [hpre, hmi]; simp [app_get_0, app_get_r]
      have fo : ∀ M g C l, (pre M g C ++ l)[oi]? = some (.arr g 1 C) := fun M g C l => by rw [hpre, hoi]; simp [app_get_0, app_get_r]
      have fu : ∀ M g C l j o, hx[j]? = some o → (pre M g C ++ l)[j + 2]? = some o := fun M g C l j o h => by rw [hpre]; simp only [List.cons_append, List.getElem?_cons_succ, List.append_assoc]; exact app_get_l h
      have fk0 : ∀ M g C l, (pre M g C ++ l)[N]? = l[0]? := fun M g C l => by rw [← plen M g C]; exact app_get_0 _ _
      have fk : ∀ M g C l k, (pre M g C ++ l)[N + k]? = l[k]? := fun M g C l k => by rw [← plen M g C]; exact app_get_r _ _ _
      have sm : ∀ M M' g C l, (pre M g C ++ l).set mi (.arr 1 1 M') = pre M' g C ++ l := fun M M' g C l => by rw [hpre, hmi]; simp [app_set_0, app_set_r]
      have so : ∀ M g g' C C' l, (pre M g C ++ l).set oi (.arr g' 1 C') = pre M g' C' ++ l := fun M g g' C C' l => by rw [hpre, hoi]; simp [app_set_0, app_set_r]
      have sk : ∀ M g C l k o, (pre M g C ++ l).set (N + k) o = pre M g C ++ l.set k o := fun M g C l k o => by rw [← plen M g C]; exact app_set_r _ _ _ _
      have pcl : ∀ D g C n', N ≤ n' → (∀ el ∈ C, ∀ x ∈ el, x.cl n' = true) → ∀ o ∈ pre (mk m.tris.length D) g C, o.cl n' := by
        intro D g C n' hn hC o ho
        rw [hpre] at ho
        simp only [List.mem_cons, List.mem_append, List.not_mem_nil, or_false] at ho
        rcases ho with rfl | rfl | ho | rfl | rfl
        · intro el hel x hx'
          simp at hel; subst hel; exact mcs_cl m n' x hx'
        · exact hU.cl (by omega)
        · exact hF o ho n'
        · exact mk_cl _ _ _
        · exact hC
      refine ⟨⟨by omega, by omega⟩, ?_⟩
      refine AS_loopG [.t 8 1] (α := Nat × List Int × List (List V) × List O) (fun p => p.1 ≤ m.tris.length ∧ Old m.tris L p.2.1 p.1 ∧ Held N p.2.2.2 (shsK L p.1) p.2.2.1 ∧ Flt p.2.2.2 ∧ (shsK L p.1).length ≤ p.1)
        (fun p => ⟨[(1, .p 0 1 0 0), (3, .mp 1), (8, .own oi ((shsK L p.1).length + 1) 0 (shsK L p.1).length), (9, .own mi 1 0 m.tris.length), (54, .i .i64 m.tris.length), (55, .i .i64 p.1)],
          pre (mk m.tris.length p.2.1) ((shsK L p.1).length + 1) p.2.2.1 ++ p.2.2.2⟩)
        (fun p => m.tris.length - p.1) (0, [], [], []) ⟨Nat.zero_le _, old0 hL, Held.nil N, by simp [Flt], by simp [shsK]⟩ ?_ ?_
      · simp [go_sem, hpre, hmi, hoi, shsK, hmcs]
        exact ⟨rfl, hU.cl2 (by omega), WeakH_app (fun o ho => hF o ho _) ⟨.inr ⟨rfl, mk_cl _ _ _⟩, .inr ⟨rfl, by simp [O.cl]⟩, trivial⟩⟩
      · rintro ⟨i, D, cells, hy⟩ ⟨hi, hD, hH, hFy, hsl⟩
        simp only at hi hD hH hFy hsl ⊢
        clear hpre
        by_cases hil : i = m.tris.length
        · subst hil
          rw [hLl]
          have hfz := held_if (base := pre (mk m.tris.length D) ((shsK L m.tris.length).length + 1) cells) hH (plen _ _ _)
          generalize hls : shsK L m.tris.length = ls at *
          simp [go_sem, topo_Shells.r, DoneF_r, fo]
          rw [hfz]; rfl
        · have hlt : i < m.tris.length := by omega
          have hmg := mk_get (n := m.tris.length) (d := D) (v := (i : Int)) (by omega) (by omega)
          rw [Int.toNat_natCast] at hmg
          obtain ⟨_, hmg'⟩ := List.getElem?_eq_some_iff.1 hmg
          have hst := shsK_succ L i
          generalize hls : shsK L i = ls at *
          by_cases hd : (i : Int) ∈ D
          · obtain ⟨hD2, hne⟩ := hD.skip hL hd
            rw [if_neg hne, List.append_nil] at hst
            rw [decide_eq_true hd] at hmg hmg'
            simp (disch := omega) [go_sem, hlt, fm, hmg, hmg', wrap64_small]
            refine ⟨i + 1, D, cells, hy, ⟨by omega, hD2, by rw [hst]; exact hH, hFy, by rw [hst]; omega⟩, by omega, ?_⟩
            rw [hst]
            simp [go_sem, plen]
            exact ⟨⟨by omega, by omega, by omega, by omega⟩, WeakH_app (pcl _ _ _ _ (by simp) (hH.cl (by simp))) (hFy.WeakH' _)⟩
          · have hLi := hD.own hL hlt hd
            rw [if_pos hLi] at hst
            rw [decide_eq_false hd] at hmg hmg'
            have hP0 := Part.one hD hlt hd
            have hms := fun d => mk_set (n := m.tris.length) (d := d) (v := (i : Int)) (by omega)
            simp only [Int.toNat_natCast] at hms
            simp (disch := omega) [go_sem, hlt, fm, sm, hmg, hmg', hms, plen, wrap64_small]
            have hwk : ∀ (D' S' : List Int) (a : Nat) (l : List O) (n' : Nat), N + hy.length ≤ n' → WeakH n' (pre (mk m.tris.length D') (ls.length + 1) cells ++ (hy ++ (O.arr a 1 (ics S') :: l))) (pre (mk m.tris.length D') (ls.length + 1) cells ++ (hy ++ [O.arr a 1 (ics S')])) :=
              fun D' S' a l n' hn => WeakH_app (pcl _ _ _ _ (by omega) (hH.cl (by omega))) (WeakH_app (fun o ho => hFy o ho _) ⟨.inr ⟨rfl, ics_cl _ _⟩, by cases l <;> trivial⟩)
            have hcell := hH.1
            refine AS_loop (α := Nat × List Int) (fun p => p.1 ≤ p.2.length ∧ Part m.tris D p.2 i ∧ BfK m.tris D p.2 p.1)
              (fun p => ⟨[(1, .p 0 1 0 0), (3, .mp 1), (8, .own oi (ls.length + 1) 0 ls.length), (9, .own mi 1 0 m.tris.length), (11, .own (N + hy.length) p.2.length 0 p.2.length), (12, .i .i64 p.1), (54, .i .i64 m.tris.length), (55, .i .i64 i)],
                pre (mk m.tris.length (D ++ p.2)) (ls.length + 1) cells ++ (hy ++ [.arr p.2.length 1 (ics p.2)])⟩)
              (fun p => m.tris.length - p.1) (0, [(i : Int)]) ⟨by simp, hP0, fun _ _ h => by omega⟩ ?_ ?_
            · simp [go_sem, ics, plen]
              exact ⟨⟨by omega, by omega, by omega, by omega⟩, hwk _ [(i : Int)] 1 [] _ (by omega)⟩
            · rintro ⟨k, S⟩ ⟨hk, hP, hB⟩
              simp only at hk hP hB ⊢
              have hSl := hP.len
              have gS : ∀ M g C g' els l, (pre M g C ++ (hy ++ (O.arr g' 1 els :: l)))[N + hy.length]? = some (.arr g' 1 els) := fun M g C g' els l => by rw [fk, app_get_0]; rfl
              have gT : ∀ M g C o x l, (pre M g C ++ (hy ++ (o :: x :: l)))[N + (hy.length + 1)]? = some x := fun M g C o x l => by rw [fk, app_get_r]; rfl
              have sS : ∀ M g C o o' l, (pre M g C ++ (hy ++ (o :: l))).set (N + hy.length) o' = pre M g C ++ (hy ++ (o' :: l)) := fun M g C o o' l => by rw [sk, app_set_0]; rfl
              by_cases hkl : k = S.length
              · subst hkl
                have hall := hP.all hL hD hlt hLi fun v hv j hj => by
                  obtain ⟨k', hk'⟩ := List.getElem?_of_mem hv
                  exact hB k' v (List.getElem?_eq_some_iff.1 hk').1 hk' j hj
                have hso := sort_shK (List.nodup_append.1 hP.nodup).2.1 hall
                have hon := hD.next hL hP.nodup hall
                rw [hLl] at hst
                generalize shK L i m.tris.length = W at *
                have hWl : W.length = S.length := by rw [← hso]; simp [sortZ]
                have hcall := hs (pre (mk m.tris.length (D ++ S)) (ls.length + 1) cells ++ (hy ++ [O.arr S.length 1 (ics S)])) (N + hy.length) S.length S (by omega) (gS _ _ _ _ _ _)
                rw [sS, hso] at hcall
                have htc : List.take ls.length cells = cells := List.take_of_length_le (by omega)
                have hHs : Held N (hy ++ [O.arr S.length 1 (ics W)]) (ls ++ [W]) (cells ++ [[.own (N + hy.length) S.length 0 S.length]]) := by
                  have := (hH.app [O.arr S.length 1 (ics W)]).snoc (j := hy.length) (l := W) (g := S.length) (by rw [app_get_0]; rfl)
                  rwa [hWl] at this
                have hFs : Flt (hy ++ [O.arr S.length 1 (ics W)]) := hFy.app (Flt.one fun n => ics_cl W n)
                simp (disch := omega) [go_sem, gS]
                refine ACall_to hcall ?_
                change Nx P _ _ _ _ _ (pre (mk m.tris.length (D ++ S)) (ls.length + 1) cells ++ (hy ++ [O.arr S.length 1 (ics W)]))
                simp (disch := omega) [go_sem, fo, so, htc, gT, plen, wrap64_small]
                refine ⟨⟨by omega, by omega, by omega⟩, i + 1, D ++ S, _, hy ++ [O.arr S.length 1 (ics W)], ⟨by omega, hon, by rw [hst]; exact hHs, hFs, by rw [hst]; simp; omega⟩, by omega, ?_⟩
                rw [hst]
                simp [go_sem, plen]
                exact ⟨⟨by omega, by omega, by omega, by omega⟩, WeakH_app (pcl _ _ _ _ (by omega) (hHs.cl (by simp))) (WeakH_app (fun o ho => hFy o ho _) ⟨.inr ⟨rfl, ics_cl _ _⟩, trivial⟩)⟩
              · have hkS : k < S.length := by omega
                have hv : S[k]? = some S[k] := List.getElem?_eq_getElem hkS
                generalize S[k] = v at hv
                obtain ⟨hv0, hvc⟩ := hP.mem v (List.mem_of_getElem? hv)
                have hvl := hvc.lt.2
                have hic : (ics S)[k]? = some [V.i .i64 v] := by simp [ics, hv]
                obtain ⟨hicl, hic'⟩ := List.getElem?_eq_some_iff.1 hic
                have ht := tAt_get hvl
                generalize htt : tAt m.tris v.toNat = t at ht
                obtain ⟨_, ht'⟩ := List.getElem?_eq_some_iff.1 ht
                have hvl2 : v < m.tris.length := by omega
                simp (disch := omega) [go_sem, f0, hmcs, hkS, gS, hic, hic', hicl, ht, ht', hvl, hvl2, hv0, tcs, wrap64_small]
                refine DCall_is (he t) ?_
                have hlen : (edgesOf t).length ≤ 3 := edgesK_le t 3
                have hnx : ∀ S', BfI m.tris D S' i k v (edgesOf t) → BfK m.tris D S' (k + 1) := fun S' h => by rw [← htt] at h; exact h.next
                have htm : m.tris[v.toNat]? = some t := ht
                have hel : ∀ e ∈ edgesOf t, e ∈ edgesOf t := fun e h => h
                generalize hEE : edgesOf t = E at hlen hnx hel
                simp [go_sem, psV]
                refine AS_loop (α := Nat × List Int) (fun p => p.1 ≤ E.length ∧ BfI m.tris D p.2 i k v (E.take p.1))
                  (fun p => ⟨[(1, .p 0 1 0 0), (3, .mp 1), (8, .own oi (ls.length + 1) 0 ls.length), (9, .own mi 1 0 m.tris.length), (11, .own (N + hy.length) p.2.length 0 p.2.length), (12, .i .i64 k), (54, .i .i64 m.tris.length), (55, .i .i64 i), (81, psV E), (82, .i .i64 E.length), (83, .i .i64 p.1)],
                    pre (mk m.tris.length (D ++ p.2)) (ls.length + 1) cells ++ (hy ++ [.arr p.2.length 1 (ics p.2)])⟩)
                  (fun p => E.length - p.1) (0, S) ⟨Nat.zero_le _, hP, hB, hv, by simp⟩ ?_ ?_
                · simp [go_sem, psV, plen]
                  exact ⟨⟨by omega, by omega, by omega, by omega⟩, hwk _ S _ [] _ (by omega)⟩
                · clear hP hB hv hic hicl hic' hkl hkS hk hSl
                  rintro ⟨q, S⟩ ⟨hq, hI⟩
                  simp only at hq hI ⊢
                  have hSl := hI.part.len
                  have hkS := (List.getElem?_eq_some_iff.1 hI.at_).1
                  by_cases hql : q = E.length
                  · subst hql
                    rw [List.take_length] at hI
                    have hB := hnx S hI
                    simp (disch := omega) [go_sem, psV, wrap64_small, plen]
                    exact ⟨k + 1, S, ⟨by omega, hI.part, hB⟩, by omega, ⟨by omega, by omega, by omega, by omega, rfl, by simp⟩, hwk _ S _ [] _ (by omega)⟩
                  · have hqE : q < E.length := by omega
                    have hee : E[q]? = some E[q] := List.getElem?_eq_getElem hqE
                    generalize E[q] = e at hee
                    have heE : e ∈ E := List.mem_of_getElem? hee
                    have htk := take_succ_get hee
                    obtain ⟨_, hee'⟩ := List.getElem?_eq_some_iff.1 hee
                    have hfe : findE [1, 1] (V.a [.i .i64 e.und.x, .i .i64 e.und.y]) (KJ.map (asG P2.enc evU)) = _ := findE_G key_P2 evU e.und KJ
                    simp (disch := omega) [go_sem, psV, hqE, hee, hee', pcs, gT, app_get_0, app_get_r]
                    refine ACall_is (hu e) ?_
                    cases hfn : fndG e.und KJ with
                    | none =>
                      rw [hfn, Option.map_none] at hfe
                      have hus := hU.none _ hfn
                      simp (disch := omega) [go_sem, P2.enc, P2.cs, f1, hfe, wrap64_small]
                      refine AS_loop (α := Unit) (fun _ => True)
                        (fun _ => ⟨[(1, .p 0 1 0 0), (3, .mp 1), (8, .own oi (ls.length + 1) 0 ls.length), (9, .own mi 1 0 m.tris.length), (11, .own (N + hy.length) S.length 0 S.length), (12, .i .i64 k), (54, .i .i64 m.tris.length), (55, .i .i64 i), (81, psV E), (82, .i .i64 E.length), (83, .i .i64 q), (91, .i .i64 0), (92, .i .i64 0)],
                          pre (mk m.tris.length (D ++ S)) (ls.length + 1) cells ++ (hy ++ [.arr S.length 1 (ics S)])⟩)
                        (fun _ => 0) () trivial ?_ ?_
                      · simp [go_sem, psV, plen]
                        exact ⟨⟨by omega, by omega, by omega, by omega⟩, hwk _ S _ _ _ (by omega)⟩
                      · intro _ _
                        simp (disch := omega) [go_sem, psV, plen, wrap64_small]
                        exact ⟨q + 1, S, ⟨by omega, by rw [htk]; exact hI.more (by rw [hus]; simp)⟩, by omega, ⟨by omega, by omega, by omega, by omega, rfl, by simp⟩, hwk _ S _ [] _ (by omega)⟩
                    | some w =>
                      obtain ⟨p, jj, n⟩ := w
                      rw [hfn, Option.map_some] at hfe
                      obtain ⟨hn, hjj⟩ := hU.val p e.und jj n (fndG_some hfn)
                      have hjjl := (List.getElem?_eq_some_iff.1 hjj).1
                      have gU := fun M g C l => fu M g C l jj _ hjj
                      have hmU : ∀ w ∈ usL (allP m.tris m.tris.length) e.und, ∃ j : Nat, j < m.tris.length ∧ w = (j : Int) ∧ adjI m.tris v.toNat j := fun w hw => by
                        obtain ⟨j, h1, h2, a, ha, hab⟩ := mem_allP.1 (mem_usL.1 hw)
                        exact ⟨j, h1, h2, t, _, htm, tAt_get h1, e, by rw [hEE]; exact heE, a, ha, hab.symm⟩
                      have hmore := fun S' (h : BfI m.tris D S' i k v (E.take q)) => h.more (e := e)
                      have hUl := usL_len (allP m.tris m.tris.length) e.und
                      have hAl := allP_len m.tris m.tris.length
                      generalize usL (allP m.tris m.tris.length) e.und = U at hn hjj gU hmU hmore hUl
                      subst hn
                      simp (disch := omega) [go_sem, P2.enc, P2.cs, f1, hfe, evU, gU, wrap64_small]
                      refine AS_loop (α := Nat × List Int) (fun p => p.1 ≤ U.length ∧ BfI m.tris D p.2 i k v (E.take q) ∧ ∀ w ∈ U.take p.1, w ∈ D ++ p.2)
                        (fun p => ⟨[(1, .p 0 1 0 0), (3, .mp 1), (8, .own oi (ls.length + 1) 0 ls.length), (9, .own mi 1 0 m.tris.length), (11, .own (N + hy.length) p.2.length 0 p.2.length), (12, .i .i64 k), (54, .i .i64 m.tris.length), (55, .i .i64 i), (81, psV E), (82, .i .i64 E.length), (83, .i .i64 q), (90, .own (jj + 2) U.length 0 U.length), (91, .i .i64 U.length), (92, .i .i64 p.1)],
                          pre (mk m.tris.length (D ++ p.2)) (ls.length + 1) cells ++ (hy ++ [.arr p.2.length 1 (ics p.2)])⟩)
                        (fun p => U.length - p.1) (0, S) ⟨Nat.zero_le _, hI, by simp⟩ ?_ ?_
                      · simp [go_sem, psV, plen]
                        exact ⟨⟨by omega, by omega, by omega, by omega, by omega⟩, hwk _ S _ _ _ (by omega)⟩
                      · clear hI hSl hkS
                        rintro ⟨r, S⟩ ⟨hr, hI, hmr⟩
                        simp only at hr hI hmr ⊢
                        have hSl := hI.part.len
                        by_cases hrl : r = U.length
                        · subst hrl
                          rw [List.take_length] at hmr
                          simp (disch := omega) [go_sem, psV, plen, wrap64_small]
                          exact ⟨q + 1, S, ⟨by omega, by rw [htk]; exact hmore S hI hmr⟩, by omega, ⟨by omega, by omega, by omega, by omega, rfl, by simp⟩, hwk _ S _ [] _ (by omega)⟩
                        · have hrU : r < U.length := by omega
                          have hur : U[r]? = some U[r] := List.getElem?_eq_getElem hrU
                          obtain ⟨j, hjl, hju, hadj⟩ := hmU _ (List.mem_of_getElem? hur)
                          rw [hju] at hur
                          have htr := take_succ_get hur
                          have hicU : (ics U)[r]? = some [V.i .i64 (j : Int)] := by simp [ics, hur]
                          obtain ⟨hiclU, hicU'⟩ := List.getElem?_eq_some_iff.1 hicU
                          have hmg := mk_get (n := m.tris.length) (d := D ++ S) (v := (j : Int)) (by omega) (by omega)
                          rw [Int.toNat_natCast] at hmg
                          obtain ⟨hmgl, hmg'⟩ := List.getElem?_eq_some_iff.1 hmg
                          have hms := mk_set (n := m.tris.length) (d := D ++ S) (v := (j : Int)) (by omega)
                          rw [Int.toNat_natCast] at hms
                          by_cases hjm : (j : Int) ∈ D ++ S
                          · rw [decide_eq_true hjm] at hmg hmg'
                            have hmr2 : ∀ w ∈ U.take (r + 1), w ∈ D ++ S := fun w hw => by
                              rw [htr] at hw
                              rcases List.mem_append.1 hw with h | h
                              · exact hmr w h
                              · simp at h; subst h; exact hjm
                            generalize hDS : D ++ S = DS at *
                            simp (disch := omega) [go_sem, psV, gU, hrU, hur, hicU, hicU', hiclU, fm, hmg, hmg', plen, wrap64_small]
                            exact ⟨hjl, r + 1, S, ⟨by omega, hI, fun w hw => List.mem_append.1 (by rw [hDS]; exact hmr2 w hw)⟩, by omega, ⟨by omega, by omega, by omega, by omega, rfl, by omega, by simp⟩, by rw [hDS]; exact hwk DS S _ [] _ (by omega)⟩
                          · rw [decide_eq_false hjm] at hmg hmg'
                            have hI2 := hI.add (u := (j : Int)) (by omega) (by rw [Int.toNat_natCast]; exact hadj) hjm
                            have hmr2 : ∀ w ∈ U.take (r + 1), w ∈ D ++ (S ++ [(j : Int)]) := fun w hw => by
                              rw [htr] at hw
                              rcases List.mem_append.1 hw with h | h
                              · exact mem_more (hmr w h)
                              · simp at h; subst h; simp
                            have htS : List.take S.length (ics S) = ics S := List.take_of_length_le (by simp [ics])
                            have hiS : S.length ≤ (ics S).length := by simp [ics]
                            have hDS2 : D ++ (S ++ [(j : Int)]) = D ++ S ++ [(j : Int)] := (List.append_assoc _ _ _).symm
                            have hicsS : ics (S ++ [(j : Int)]) = ics S ++ [[.i .i64 (j : Int)]] := by simp [ics]
                            generalize hDS : D ++ S = DS at *
                            simp (disch := omega) [go_sem, psV, gU, hrU, hur, hicU, hicU', hiclU, fm, sm, gS, sS, gT, htS, hiS, hmg, hmg', hms, plen, wrap64_small]
                            refine ⟨hjl, ⟨by omega, by omega⟩, r + 1, S ++ [(j : Int)], ⟨by omega, hI2, fun w hw => List.mem_append.1 (hmr2 w hw)⟩, by omega, ⟨by omega, by omega, by omega, by omega, by simp, by omega, by simp⟩, ?_⟩
                            rw [hDS2, hicsS, List.length_append, List.length_singleton]
                            have := hwk (DS ++ [(j : Int)]) (S ++ [(j : Int)]) (S.length + 1) [] (N + (hy.length + 1)) (by omega)
                            rwa [hicsS] at this
    · have hlt : i < m.tris.length := by omega
      have hp := tAt_get hlt
      have hps := allP_succ m.tris i
      have hal := allP_len m.tris i
      generalize tAt m.tris i = t at hp hps
      obtain ⟨_, hp'⟩ := List.getElem?_eq_some_iff.1 hp
      generalize hQ : allP m.tris i = Q at *
      simp [go_sem, Mesh.cs, tsV, hlt, hp, hp', tcs, app_get_0, app_get_r]
      refine ACall_is (he t) ?_
      have hlen : (edgesOf t).length ≤ 3 := edgesK_le t 3
      simp [go_sem, psV]
      refine AS_loop (α := Nat × List O × List (P2 × (Nat × Nat))) (fun p => p.1 ≤ (edgesOf t).length ∧ UM p.2.1 p.2.2 (Q ++ ((edgesOf t).take p.1).map fun e => (e.und, (i : Int))) ∧ Flt p.2.1)
        (fun p => ⟨[(1, .p 0 1 0 0), (3, .mp 1), (4, .i .i64 i), (22, tsV m.tris), (23, .i .i64 m.tris.length), (24, .i .i64 i), (30, psV (edgesOf t)), (31, .i .i64 (edgesOf t).length), (32, .i .i64 p.1)], .arr 1 2 [m.cs] :: .mp (p.2.2.map (asG P2.enc evU)) :: p.2.1⟩)
        (fun p => (edgesOf t).length - p.1) (0, hx ++ [.arr 1 3 [t.cs]], KJ) ⟨Nat.zero_le _, by simpa using hU.app _, hF.app (by simp [Flt, O.cl, t3c_cl])⟩ ?_ ?_
      · simp [go_sem, Mesh.cs, tsV, vsV, psV]
        exact ⟨hU.cl2 (by omega), (hF.app (Flt.one (o := .arr 1 3 [t.cs]) fun n => by intro el hel x hx; simp at hel; subst hel; exact of_eq_true (t3c_cl t n) x hx)).WeakH' _⟩
      · rintro ⟨j, hx, KJ⟩ ⟨hj, hU, hF⟩
        simp only at hj hU hF ⊢
        by_cases hjl : j = (edgesOf t).length
        · subst hjl
          rw [List.take_length, ← hps] at hU
          simp (disch := omega) [go_sem, Mesh.cs, tsV, vsV, psV, wrap64_small]
          exact ⟨i + 1, hx, KJ, ⟨by omega, hU, hF⟩, by omega, by omega, by simp, ⟨rfl, hU.cl2 (by omega)⟩, hF.WeakH' _⟩
        · have hjt : j < (edgesOf t).length := by omega
          have hq : (edgesOf t)[j]? = some (edgesOf t)[j] := List.getElem?_eq_getElem hjt
          have htk : ((edgesOf t).take (j + 1)).map (fun e => (e.und, (i : Int))) = ((edgesOf t).take j).map (fun e => (e.und, (i : Int))) ++ [((edgesOf t)[j].und, (i : Int))] := by rw [take_succ_get hq, List.map_append]; rfl
          generalize (edgesOf t)[j] = e at hq htk
          obtain ⟨_, hq'⟩ := List.getElem?_eq_some_iff.1 hq
          have hQs : Q ++ ((edgesOf t).take (j + 1)).map (fun e => (e.und, (i : Int))) = (Q ++ ((edgesOf t).take j).map fun e => (e.und, (i : Int))) ++ [(e.und, (i : Int))] := by rw [htk, ← List.append_assoc]
          have hQl : (Q ++ ((edgesOf t).take j).map fun e => (e.und, (i : Int))).length ≤ 12300 := by rw [List.length_append, List.length_map, List.length_take]; omega
          generalize (Q ++ ((edgesOf t).take j).map fun e => (e.und, (i : Int))) = Q1 at *
          have hul := usL_len Q1 e.und
          have hfe : findE [1, 1] (V.a [.i .i64 e.und.x, .i .i64 e.und.y]) (KJ.map (asG P2.enc evU)) = _ := findE_G key_P2 evU e.und KJ
          simp [go_sem, psV, hjt, hq, hq', pcs, app_get_0, app_get_r]
          refine DCall_is (hu e) ?_
          simp [go_sem, P2.enc, P2.cs, app_get_0, app_get_r]
          refine DCall_is (hu e) ?_
          cases hfn : fndG e.und KJ with
          | none =>
            rw [hfn, Option.map_none] at hfe
            simp (disch := omega) [go_sem, P2.enc, P2.cs, hfe, app_get_0, app_get_r, wrap64_small]
            have hF2 : Flt (hx ++ [.arr 1 2 [[.i .i64 e.x, .i .i64 e.y]], .arr 1 1 (ics [(i : Int)])]) := hF.app fun o ho n => by
              simp at ho
              rcases ho with rfl | rfl
              · exact fe_cl e n
              · exact ics_cl _ _
            have hU2 := hU.new (v := (i : Int)) hfn (l := [.arr 1 2 [[.i .i64 e.x, .i .i64 e.y]], .arr 1 1 (ics [(i : Int)])]) (j0 := hx.length + 1) (by omega) (by rw [app_get_r]; rfl)
            exact ⟨j + 1, _, _, ⟨by omega, by rw [← List.map_take, hQs]; exact hU2, hF2⟩, by omega, by simp, ⟨.inr rfl, by simp⟩, mcs_cl m _, ⟨by rw [List.map_append]; rfl, hU2.cl2 (by simp)⟩, hF2.WeakH' _⟩
          | some q =>
            obtain ⟨p, jj, n⟩ := q
            rw [hfn, Option.map_some] at hfe
            obtain ⟨hn, hjj⟩ := hU.val p e.und jj n (fndG_some hfn)
            have hjjl := (List.getElem?_eq_some_iff.1 hjj).1
            have hgj : ∀ l : List O, (hx ++ l)[jj]? = some (.arr n 1 (ics (usL Q1 e.und))) := fun l => app_get_l hjj
            have hsj : ∀ (l : List O) (o : O), (hx ++ l).set jj o = hx.set jj o ++ l := fun l o => app_set_l l hjjl o
            have htn : List.take n (ics (usL Q1 e.und)) = ics (usL Q1 e.und) := List.take_of_length_le (by simp [ics, hn])
            have hnl : n ≤ (ics (usL Q1 e.und)).length := by simp [ics, hn]
            simp (disch := omega) [go_sem, P2.enc, P2.cs, hfe, evU, hgj, hsj, htn, hnl, app_get_0, app_get_r, wrap64_small]
            have hF2 : Flt (hx.set jj (.arr (n + 1) 1 (ics (usL Q1 e.und) ++ [[.i .i64 (i : Int)]])) ++ [.arr 1 2 [[.i .i64 e.x, .i .i64 e.y]]]) := (hF.set fun n' => by
              have : ics (usL Q1 e.und) ++ [[V.i .i64 (i : Int)]] = ics (usL Q1 e.und ++ [(i : Int)]) := by simp [ics]
              rw [this]; exact ics_cl _ _).app (Flt.one (fe_cl e))
            have hU2 := (hU.old (v := (i : Int)) hfn).app [.arr 1 2 [[.i .i64 e.x, .i .i64 e.y]]]
            refine ⟨⟨by omega, by omega⟩, fun o ho => ?_, j + 1, _, _, ⟨by omega, by rw [← List.map_take, hQs]; exact hU2, hF2⟩, by omega, by simp, ⟨.inr rfl, by simp⟩, mcs_cl m _, ⟨by rw [List.map_set]; rfl, hU2.cl2 (by simp)⟩, hF2.WeakH' _⟩
            rw [List.drop_eq_nil_of_le (by simp)] at ho
            simp at ho
end
end Go.Abs

set_option linter.unusedVariables false
set_option linter.unusedSimpArgs false
namespace Go.Abs

def TouchC (P : Program) (f : FuncId) : Prop := ∀ s t : T3, CallIs P f [s.enc, t.enc] (.b (decide (∃ a ∈ edgesOf s, ∃ b ∈ edgesOf t, a.und = b.und)))
def rtsK (L : List Int) (k : Nat) : List Nat := (List.range k).filter fun (i : Nat) => decide (L[i]? = some (i : Int))
theorem mem_shK {L : List Int} {i n : Nat} {v : Int} : v ∈ shK L i n ↔ ∃ j : Nat, j < n ∧ v = (j : Int) ∧ L[j]? = some (i : Int) := by
  unfold shK
  rw [List.mem_map]
  constructor
  · rintro ⟨j, hj, rfl⟩
    have := List.mem_filter.1 hj
    exact ⟨j, List.mem_range.1 this.1, rfl, by simpa using this.2⟩
  · rintro ⟨j, h1, rfl, h2⟩
    exact ⟨j, List.mem_filter.2 ⟨List.mem_range.2 h1, by simpa using h2⟩, rfl⟩
theorem shK_nodup (L : List Int) (i n : Nat) : (shK L i n).Nodup := by
  unfold shK
  rw [List.Nodup, List.pairwise_map]
  have h1 : (List.range n).Pairwise (fun a b : Nat => a < b) := List.pairwise_lt_range
  exact (h1.filter _).imp fun {a b : Nat} (h : a < b) => by show (a : Int) ≠ (b : Int); omega
theorem rts_nodup (L : List Int) (k : Nat) : (rtsK L k).Pairwise (· ≠ ·) := by
  have h1 : (List.range k).Pairwise (fun a b : Nat => a < b) := List.pairwise_lt_range
  exact (h1.filter _).imp fun {a b : Nat} (h : a < b) => by omega

theorem shs_nodup (L : List Int) (k : Nat) : (shsK L k).flatten.Nodup := by
  unfold shsK
  rw [List.Nodup, List.pairwise_flatten]
  refine ⟨fun l hl => ?_, ?_⟩
  · obtain ⟨i, _, rfl⟩ := List.mem_map.1 hl
    exact shK_nodup L i _
  · rw [List.pairwise_map]
    refine (rts_nodup L k).imp fun {a b} h x hx y hy => ?_
    obtain ⟨j, _, rfl, h1⟩ := mem_shK.1 hx
    obtain ⟨j', _, rfl, h2⟩ := mem_shK.1 hy
    intro he
    obtain rfl : j = j' := by omega
    rw [h1] at h2
    have := Option.some.inj h2
    omega
theorem shs_range {L : List Int} {k : Nat} {v : Int} (h : v ∈ (shsK L k).flatten) : 0 ≤ v ∧ v < L.length := by
  obtain ⟨l, hl, hv⟩ := List.mem_flatten.1 h
  unfold shsK at hl
  obtain ⟨i, _, rfl⟩ := List.mem_map.1 hl
  obtain ⟨j, h1, rfl, _⟩ := mem_shK.1 hv
  omega
theorem shs_all {ts : List T3} {L : List Int} (hL : IsLab ts L) {j : Nat} (hj : j < L.length) : (j : Int) ∈ (shsK L L.length).flatten := by
  have h1 : L[j]? = some L[j] := List.getElem?_eq_getElem hj
  obtain ⟨h2, h3, h4⟩ := hL.con j _ h1
  have h5 := hL.conn h4
  obtain ⟨r, hr⟩ : ∃ r : Nat, L[j] = (r : Int) := ⟨L[j].toNat, by omega⟩
  rw [hr] at h1 h3 h5
  rw [Int.toNat_natCast, h1] at h5
  refine List.mem_flatten.2 ⟨shK L r L.length, ?_, mem_shK.2 ⟨j, hj, rfl, h1⟩⟩
  unfold shsK
  exact List.mem_map.2 ⟨r, List.mem_filter.2 ⟨List.mem_range.2 (by omega), by simpa using h5.symm⟩, rfl⟩
theorem shs_row {L : List Int} {k r j : Nat} {l : List Int} (h : (shsK L k)[r]? = some l) (hj : (j : Int) ∈ l) : ∃ i, (rtsK L k)[r]? = some i ∧ L[j]? = some (i : Int) := by
  unfold shsK at h
  rw [List.getElem?_map] at h
  obtain ⟨i, hi, rfl⟩ := Option.map_eq_some_iff.1 h
  obtain ⟨j', _, he, h2⟩ := mem_shK.1 hj
  obtain rfl : j = j' := by omega
  exact ⟨i, hi, h2⟩
theorem shs_same {ts : List T3} {L : List Int} (hL : IsLab ts L) {k r r' j j' : Nat} {l l' : List Int} (h : (shsK L k)[r]? = some l) (hj : (j : Int) ∈ l) (h' : (shsK L k)[r']? = some l') (hj' : (j' : Int) ∈ l') (ha : adjI ts j j') : r = r' := by
  obtain ⟨i, h1, h2⟩ := shs_row h hj
  obtain ⟨i', h1', h2'⟩ := shs_row h' hj'
  have := hL.adj _ _ ha
  rw [h2, h2'] at this
  have hii : i = i' := by have := Option.some.inj this; omega
  subst hii
  have hnd := rts_nodup L k
  rw [← List.nodup_iff_pairwise_ne] at hnd
  have hl1 := (List.getElem?_eq_some_iff.1 h1).1
  exact (List.getElem?_inj hl1 hnd).1 (h1.trans h1'.symm)

/-- The array of marks after some numbers. -/
structure Mk (ls : List (List Int)) (n : Nat) (A d : List Int) : Prop where
  len : A.length = n
  snd : ∀ (v : Nat) (u : Int), A[v]? = some u → u ≠ 0 → ∃ (r : Nat) (l : List Int), ls[r]? = some l ∧ (v : Int) ∈ l ∧ u = (r : Int) + 1
  iff : ∀ (v : Nat) (u : Int), A[v]? = some u → (u ≠ 0 ↔ (v : Int) ∈ d)
theorem Mk.start (ls : List (List Int)) (n : Nat) : Mk ls n (List.replicate n 0) [] :=
  ⟨by simp, fun v u h hu => by
    have := List.eq_of_mem_replicate (List.mem_of_getElem? h)
    exact absurd this hu, fun v u h => by
    have := List.eq_of_mem_replicate (List.mem_of_getElem? h)
    simp [this]⟩
theorem Mk.add {ls : List (List Int)} {n : Nat} {A d l : List Int} (h : Mk ls n A d) {r v : Nat} (hr : ls[r]? = some l) (hv : (v : Int) ∈ l) (hn : v < n) : Mk ls n (A.set v ((r : Int) + 1)) (d ++ [(v : Int)]) where
  len := by rw [List.length_set, h.len]
  snd w u hw hu := by
    rw [List.getElem?_set] at hw
    split at hw
    · rename_i he; subst he
      rw [if_pos (by rw [h.len]; exact hn)] at hw
      exact ⟨r, l, hr, hv, (Option.some.inj hw).symm⟩
    · exact h.snd w u hw hu
  iff w u hw := by
    rw [List.getElem?_set] at hw
    split at hw
    · rename_i he; subst he
      rw [if_pos (by rw [h.len]; exact hn)] at hw
      have := Option.some.inj hw
      simp; omega
    · rename_i he
      rw [h.iff w u hw]
      simp only [List.mem_append, List.mem_singleton]
      constructor
      · exact .inl
      · rintro (h1 | h1)
        · exact h1
        · omega

theorem flat_new {ls : List (List Int)} (h : ls.flatten.Nodup) {i j : Nat} {l : List Int} {v : Int} (hi : ls[i]? = some l) (hj : l[j]? = some v) : v ∉ (ls.take i).flatten ++ l.take j := by
  obtain ⟨h1, h2⟩ := List.getElem?_eq_some_iff.1 hi
  obtain ⟨h3, h4⟩ := List.getElem?_eq_some_iff.1 hj
  have e1 : ls = ls.take i ++ l :: ls.drop (i + 1) := by rw [← h2, ← List.drop_eq_getElem_cons h1, List.take_append_drop]
  have e2 : l = l.take j ++ v :: l.drop (j + 1) := by rw [← h4, ← List.drop_eq_getElem_cons h3, List.take_append_drop]
  have e3 : ls.flatten = ((ls.take i).flatten ++ l.take j) ++ (v :: (l.drop (j + 1) ++ (ls.drop (i + 1)).flatten)) := by
    conv => lhs; rw [e1, List.flatten_append, List.flatten_cons]
    conv => lhs; rw [e2]
    simp
  rw [e3, List.nodup_append] at h
  intro hv
  exact h.2.2 v hv v (by simp) rfl

section
variable {P : Program} (hm : P.follows .mixedOrders = true)
include hm

set_option maxHeartbeats 4000000 in
theorem law10_touch_ok {f fd fu : FuncId} (hf : FnOk P f (law10_touch.c fd fu) law10_touch.r law10_touch.n) (hd : EdgesC P fd) (hu : UndC P fu) : TouchC P f := by
  intro s t
  refine PureC.is (pure_of hm hf (Nat.le_of_ble_eq_true rfl) ?_) rfl
  unfold law10_touch.c
  have hds := hd s
  have hdt := hd t
  simp only [T3.enc, T3.cs] at hds hdt
  have hls : (edgesOf s).length ≤ 3 := edgesK_le s 3
  have hlt : (edgesOf t).length ≤ 3 := edgesK_le t 3
  generalize edgesOf s = Es at *
  generalize edgesOf t = Et at *
  simp [go_sem, T3.enc, T3.cs]
  refine ACall_is hds ?_
  simp [go_sem, psV]
  refine AS_loop (α := Nat) (fun k => k ≤ Es.length ∧ ∀ a ∈ Es.take k, ∀ b ∈ Et, a.und ≠ b.und)
    (fun k => ⟨[(3, .p 1 1 0 0), (10, psV Es), (11, .i .i64 Es.length), (12, .i .i64 k)], [.dead, .arr 1 3 [t.cs]]⟩)
    (fun k => Es.length - k) 0 ⟨Nat.zero_le _, by simp⟩ ?_ ?_
  · simp [go_sem, psV, T3.cs]
  · rintro k ⟨hk, hno⟩
    by_cases hkl : k = Es.length
    · subst hkl
      rw [List.take_length] at hno
      have hF : ¬ ∃ a ∈ Es, ∃ b ∈ Et, a.und = b.und := fun ⟨a, ha, b, hb, he⟩ => hno a ha b hb he
      simp (disch := omega) [go_sem, psV, law10_touch.r]
      exact fun x hx y hy h => hF ⟨x, hx, y, hy, h⟩
    · have hlk : k < Es.length := by omega
      have ha : Es[k]? = some Es[k] := List.getElem?_eq_getElem hlk
      have htk := take_succ_get ha
      generalize Es[k] = a at ha htk
      have haE : a ∈ Es := List.mem_of_getElem? ha
      obtain ⟨_, ha'⟩ := List.getElem?_eq_some_iff.1 ha
      simp (disch := omega) [go_sem, psV, hlk, ha, ha', pcs, T3.cs]
      refine ACall_is hdt ?_
      simp [go_sem, psV]
      refine AS_loop (α := Nat) (fun j => j ≤ Et.length ∧ ∀ b ∈ Et.take j, a.und ≠ b.und)
        (fun j => ⟨[(3, .p 1 1 0 0), (6, .p 2 1 0 0), (10, psV Es), (11, .i .i64 Es.length), (12, .i .i64 k), (17, psV Et), (18, .i .i64 Et.length), (19, .i .i64 j)], [.dead, .arr 1 3 [t.cs], .arr 1 2 [a.cs]]⟩)
        (fun j => Et.length - j) 0 ⟨Nat.zero_le _, by simp⟩ ?_ ?_
      · simp [go_sem, psV, T3.cs, P2.cs]
      · rintro j ⟨hj, hnj⟩
        by_cases hjl : j = Et.length
        · subst hjl
          rw [List.take_length] at hnj
          simp (disch := omega) [go_sem, psV, T3.cs, P2.cs, wrap64_small]
          refine ⟨k + 1, ⟨by omega, fun x hx y hy => ?_⟩, by omega, by simp⟩
          rw [htk] at hx
          rcases List.mem_append.1 hx with h | h
          · exact hno x h y hy
          · simp at h; subst h; exact hnj y hy
        · have hlj : j < Et.length := by omega
          have hb : Et[j]? = some Et[j] := List.getElem?_eq_getElem hlj
          have htj := take_succ_get hb
          generalize Et[j] = b at hb htj
          have hbE : b ∈ Et := List.mem_of_getElem? hb
          obtain ⟨_, hb'⟩ := List.getElem?_eq_some_iff.1 hb
          have hua := hu a
          have hub := hu b
          simp only [P2.enc, pcs] at hua hub
          simp (disch := omega) [go_sem, psV, hlj, hb, hb', pcs, T3.cs]
          refine DCall_is hua ?_
          simp (disch := omega) [go_sem, psV, pcs]
          refine DCall_is hub ?_
          by_cases hab : a.und = b.und
          · have hT : ∃ a ∈ Es, ∃ b ∈ Et, a.und = b.und := ⟨a, haE, b, hbE, hab⟩
            simp (disch := omega) [go_sem, P2.enc, pcs, hab, law10_touch.r]
            exact hT
          · have hxy : ¬ (a.und.x = b.und.x ∧ a.und.y = b.und.y) := fun h => hab (by generalize a.und = p at h ⊢; generalize b.und = q at h ⊢; cases p; cases q; simp at h ⊢; exact h)
            simp (disch := omega) [go_sem, P2.enc, pcs, hxy, wrap64_small]
            refine fun _ => ⟨j + 1, ⟨by omega, fun y hy => ?_⟩, by omega, by simp⟩
            rw [htj] at hy
            rcases List.mem_append.1 hy with h | h
            · exact hnj y h
            · simp at h; subst h; exact hab

set_option maxRecDepth 20000 in
set_option maxHeartbeats 8000000 in
theorem TopoShells_ok {f fh fa fs fr fq fc ft : FuncId} (hf : FnOk P f (law10_TopoShells.c fh fa fs fr fq fc ft) law10_TopoShells.r law10_TopoShells.n) (hh : HeavyC P fh) (ha : AwakeC P fa) (hs : ShellsC P fs) (hr : ShellsC P fr) (hq : EqLC P fq) (hc : CheckC P fc) (ht : TouchC P ft)
    (m : Mesh) : PureC P f [m.enc] (· = .b true) := by
  refine pure_of hm hf (Nat.le_of_ble_eq_true rfl) ?_
  unfold law10_TopoShells.c
  have hh1 := hh m
  have hs1 := hs m
  have hr1 := hr m
  have hc1 := hc m
  simp only [Mesh.enc, Mesh.cs] at hh1 hs1 hr1 hc1
  simp [go_sem, Mesh.enc, Mesh.cs]
  refine ACall_is hh1 ?_
  cases hhv : m.heavy
  case true =>
    simp [go_sem]
    refine ACall_is ha ?_
    simp [go_sem, law10_TopoShells.r]
  simp [go_sem]
  refine ACall_is hs1 ?_
  simp [go_sem]
  refine ACall_is hr1 ?_
  by_cases hz : m.check = 0
  case neg =>
    have he : m.shells = [] := by simp [Mesh.shells, hz]
    rw [he]
    have hq1 := hq [] (by simp) (by simp)
    simp [go_sem]
    refine ACall_is hq1 ?_
    simp [go_sem]
    refine ACall_is hc1 ?_
    simp [go_sem, hz, lsV]
    refine ACall_is ha ?_
    simp [go_sem, law10_TopoShells.r]
  obtain ⟨L, hL⟩ := lab_ex m.tris
  have hR : m.shells = shsK L m.tris.length := by unfold Mesh.shells; rw [if_pos hz, labOf_eq hL, hL.len]
  have hl := (Mesh.check_zero.1 hz).2.1
  have hnd := shs_nodup L m.tris.length
  have hrg : ∀ v ∈ (shsK L m.tris.length).flatten, 0 ≤ v ∧ v < m.tris.length := fun v hv => by have := shs_range hv; rwa [hL.len] at this
  have hal : ∀ j : Nat, j < m.tris.length → (j : Int) ∈ (shsK L m.tris.length).flatten := fun j hj => by have := shs_all hL (j := j) (by rw [hL.len]; exact hj); rwa [hL.len] at this
  have hsm : ∀ (r r' j j' : Nat) (l l' : List Int), (shsK L m.tris.length)[r]? = some l → (j : Int) ∈ l → (shsK L m.tris.length)[r']? = some l' → (j' : Int) ∈ l' → adjI m.tris j j' → r = r' := fun r r' j j' l l' h1 h2 h3 h4 h5 => shs_same hL h1 h2 h3 h4 h5
  have hrow : ∀ l ∈ shsK L m.tris.length, l.length ≤ m.tris.length := fun l hl => by
    unfold shsK at hl
    obtain ⟨i, _, rfl⟩ := List.mem_map.1 hl
    unfold shK
    rw [List.length_map, hL.len]
    exact Nat.le_trans (List.length_filter_le _ _) (by simp)
  have hnum : (shsK L m.tris.length).length ≤ m.tris.length := by
    unfold shsK
    rw [List.length_map]
    exact Nat.le_trans (List.length_filter_le _ _) (by simp)
  rw [hR]
  generalize shsK L m.tris.length = ls at *
  have hq1 := hq ls (by omega) (fun l hl' => by have := hrow l hl'; omega)
  simp [go_sem]
  refine ACall_is hq1 ?_
  simp [go_sem]
  refine ACall_is hc1 ?_
  simp [go_sem, hz, tsV, lsV]
  refine ⟨⟨by omega, by omega⟩, ?_⟩
  refine AS_loop (α := Nat × List Int) (fun p => p.1 ≤ ls.length ∧ Mk ls m.tris.length p.2 (ls.take p.1).flatten)
    (fun p => ⟨[(1, .p 0 1 0 0), (3, lsV ls), (4, .own 1 1 0 m.tris.length), (34, .i .i64 ls.length), (35, .i .i64 p.1)], [.arr 1 2 [m.cs], .arr 1 1 (ics p.2)]⟩)
    (fun p => ls.length - p.1) (0, List.replicate m.tris.length 0) ⟨Nat.zero_le _, by simpa using Mk.start ls m.tris.length⟩ ?_ ?_
  · simp [go_sem, ics, lsV, Mesh.cs, tsV, vsV]
    done
  · rintro ⟨i, A⟩ ⟨hi, hM⟩
    simp only at hi hM ⊢
    have hAl := hM.len
    by_cases hil : i = ls.length
    · subst hil
      rw [List.take_length] at hM
      simp (disch := omega) [go_sem, lsV]
      refine AS_loop (α := Nat) (fun i => i ≤ m.tris.length)
        (fun i => ⟨[(1, .p 0 1 0 0), (4, .own 1 1 0 m.tris.length), (70, .i .i64 m.tris.length), (71, .i .i64 i)], [.arr 1 2 [m.cs], .arr 1 1 (ics A)]⟩)
        (fun i => m.tris.length - i) 0 (Nat.zero_le _) ?_ ?_
      · simp [go_sem, lsV, Mesh.cs, tsV, vsV]
        exact ics_cl A 2
      · intro i hi
        by_cases hil : i = m.tris.length
        · subst hil
          simp (disch := omega) [go_sem]
          refine ACall_is ha ?_
          simp [go_sem, law10_TopoShells.r]
        · have hlt : i < m.tris.length := by omega
          simp (disch := omega) [go_sem, hlt]
          refine AS_loop (α := Nat) (fun k => k ≤ i + 1)
            (fun k => ⟨[(1, .p 0 1 0 0), (4, .own 1 1 0 m.tris.length), (8, .i .i64 i), (9, .i .i64 k), (70, .i .i64 m.tris.length), (71, .i .i64 i)], [.arr 1 2 [m.cs], .arr 1 1 (ics A)]⟩)
            (fun k => i + 1 - k) 0 (Nat.zero_le _) ?_ ?_
          · simp [go_sem, lsV, Mesh.cs, tsV, vsV]
            exact ics_cl A 2
          · intro k hk
            by_cases hki : k = i + 1
            · subst hki
              have hle : ¬ ((i : Int) + 1 ≤ i) := by omega
              simp (disch := omega) [go_sem, hle, wrap64_small]
              exact ⟨i + 1, by omega, by omega, by simp, mcs_cl m 2, ics_cl A 2⟩
            · have hkl : k ≤ i := by omega
              have hAi : A[i]? = some A[i] := List.getElem?_eq_getElem (by omega)
              have hAk : A[k]? = some A[k] := List.getElem?_eq_getElem (by omega)
              generalize A[i] = u at hAi
              generalize A[k] = w at hAk
              have hu0 : u ≠ 0 := (hM.iff i u hAi).2 (hal i hlt)
              have hw0 : w ≠ 0 := (hM.iff k w hAk).2 (hal k (by omega))
              have gi : (ics A)[i]? = some [V.i .i64 u] := by simp [ics, hAi]
              have gk : (ics A)[k]? = some [V.i .i64 w] := by simp [ics, hAk]
              obtain ⟨li, gi'⟩ := List.getElem?_eq_some_iff.1 gi
              obtain ⟨lk, gk'⟩ := List.getElem?_eq_some_iff.1 gk
              have hub : (u == 0) = false := by simpa using hu0
              have hwb : (w == 0) = false := by simpa using hw0
              by_cases huw : u = w
              · subst huw
                simp (disch := omega) [go_sem, Mesh.cs, tsV, hlt, hkl, gi, gk, gi', gk', li, lk, hu0, hub, wrap64_small]
                exact ⟨by omega, k + 1, by omega, by omega, by simp, rfl, ics_cl A 2⟩
              · obtain ⟨r, l, r1, r2, r3⟩ := hM.snd i u hAi hu0
                obtain ⟨r', l', r1', r2', r3'⟩ := hM.snd k w hAk hw0
                have hti := tAt_get hlt
                have htk := tAt_get (show k < m.tris.length by omega)
                have hno : ¬ ∃ a ∈ edgesOf (tAt m.tris i), ∃ b ∈ edgesOf (tAt m.tris k), a.und = b.und := fun h => by
                  have := hsm r r' i k l l' r1 r2 r1' r2' ⟨_, _, hti, htk, h⟩
                  omega
                have htc := ht (tAt m.tris i) (tAt m.tris k)
                rw [decide_eq_false hno] at htc
                generalize tAt m.tris i = s at hti htc
                generalize tAt m.tris k = t at htk htc
                obtain ⟨_, hti'⟩ := List.getElem?_eq_some_iff.1 hti
                obtain ⟨_, htk'⟩ := List.getElem?_eq_some_iff.1 htk
                simp only [T3.enc, tcs] at htc
                have hx1 : (u == w) = false := by simpa using huw
                have hx2 : (u != w) = true := by simpa using huw
                simp (disch := omega) [go_sem, Mesh.cs, tsV, hlt, hkl, gi, gk, gi', gk', li, lk, hu0, hub, hx1, hx2, huw, hti, htk, hti', htk', tcs, wrap64_small]
                refine ⟨by omega, DCall_is htc ?_⟩
                simp (disch := omega) [go_sem, wrap64_small]
                exact ⟨k + 1, by omega, by omega, by simp, rfl, ics_cl A 2⟩
    · have hlt : i < ls.length := by omega
      have hr1 : ls[i]? = some ls[i] := List.getElem?_eq_getElem hlt
      have htk := take_succ_get hr1
      generalize ls[i] = l at hr1 htk
      have hlm : l ∈ ls := List.mem_of_getElem? hr1
      have hll := hrow l hlm
      obtain ⟨_, hr1'⟩ := List.getElem?_eq_some_iff.1 hr1
      simp (disch := omega) [go_sem, lsV, hlt, hr1, hr1', isV, wrap64_small]
      refine AS_loop (α := Nat × List Int) (fun p => p.1 ≤ l.length ∧ Mk ls m.tris.length p.2 ((ls.take i).flatten ++ l.take p.1))
        (fun p => ⟨[(1, .p 0 1 0 0), (3, lsV ls), (4, .own 1 1 0 m.tris.length), (5, .i .i64 i), (34, .i .i64 ls.length), (35, .i .i64 i), (41, isV l), (42, .i .i64 l.length), (43, .i .i64 p.1)], [.arr 1 2 [m.cs], .arr 1 1 (ics p.2)]⟩)
        (fun p => l.length - p.1) (0, A) ⟨Nat.zero_le _, by simpa using hM⟩ ?_ ?_
      · simp [go_sem, lsV, isV, Mesh.cs, tsV, vsV]
        exact ics_cl A 2
      · clear hM hAl
        rintro ⟨j, A⟩ ⟨hj, hM⟩
        simp only at hj hM ⊢
        have hAl := hM.len
        by_cases hjl : j = l.length
        · subst hjl
          rw [List.take_length] at hM
          have hM2 : Mk ls m.tris.length A (ls.take (i + 1)).flatten := by rw [htk, List.flatten_append]; simpa using hM
          simp (disch := omega) [go_sem, lsV, isV, wrap64_small]
          exact ⟨i + 1, A, ⟨by omega, hM2⟩, by omega, by simp, mcs_cl m 2, rfl, ics_cl A 2⟩
        · have hlj : j < l.length := by omega
          have hv : l[j]? = some l[j] := List.getElem?_eq_getElem hlj
          generalize l[j] = v at hv
          have hvl := List.mem_of_getElem? hv
          obtain ⟨hv0, hvn⟩ := hrg v (List.mem_flatten.2 ⟨l, hlm, hvl⟩)
          obtain ⟨w, rfl⟩ : ∃ w : Nat, v = (w : Int) := ⟨v.toNat, by omega⟩
          have htj := take_succ_get hv
          have hnw := flat_new hnd hr1 hv
          have hwn : w < m.tris.length := by omega
          have hAw : A[w]? = some A[w] := List.getElem?_eq_getElem (by omega)
          have hA0 : A[w] = 0 := by
            exact Decidable.byContradiction fun h => hnw ((hM.iff w _ hAw).1 h)
          rw [hA0] at hAw
          have gw : (ics A)[w]? = some [V.i .i64 0] := by simp [ics, hAw]
          obtain ⟨lw, gw'⟩ := List.getElem?_eq_some_iff.1 gw
          obtain ⟨_, hv'⟩ := List.getElem?_eq_some_iff.1 hv
          have hM2 := hM.add hr1 hvl hwn
          rw [List.append_assoc, ← htj] at hM2
          have hset : ics (A.set w ((i : Int) + 1)) = (ics A).set w [V.i .i64 ((i : Int) + 1)] := by simp [ics, List.map_set]
          have hng : decide ((w : Int) < 0) = false := decide_eq_false (by omega)
          have hge : decide (m.tris.length ≤ w) = false := decide_eq_false (by omega)
          simp (disch := omega) [go_sem, hng, hge, lsV, isV, hlj, hv, hv', gw, gw', lw, hwn, wrap64_small]
          exact ⟨j + 1, A.set w ((i : Int) + 1), ⟨by omega, hM2⟩, by omega, by simp, mcs_cl m 2, hset.symm, ics_cl _ 2⟩
end
end Go.Abs

