/- Part of the library on which the proof stands: an abstract machine, its values and its soundness against the model; or what functions of the program do to such values. -/
import Derived.Test.YtmgfinibgfjmpaaGoOw
import Derived.Test.YtmgfinibgfjmpaaGoOriA
import Derived.Test.YtmgfinibgfjmpaaGoClone
import Derived.Test.YtmgfinibgfjmpaaGoLpB
set_option linter.unusedVariables false
set_option linter.unusedSimpArgs false
namespace Go.Abs

theorem und_two {a b : P2} (h : a.und = b.und) : a = b ∨ a = b.rev := by
  cases a; cases b
  simp only [P2.und, P2.rev, P2.mk.injEq] at h ⊢
  omega
theorem edgesOf_nodup (t : T3) : (edgesOf t).Nodup := by
  have h0 : edgesOf t = (edges3 t).filter fun e => decide (e.x ≠ e.y) := rfl
  rw [h0, List.nodup_iff_pairwise_ne, List.pairwise_filter]
  unfold edges3
  simp only [List.pairwise_cons, List.mem_cons, List.not_mem_nil, or_false, decide_eq_true_eq, ne_eq, false_implies, implies_true, List.Pairwise.nil, and_true, P2.mk.injEq]
  refine ⟨fun x hx h1 h2 => ?_, fun x hx h1 h2 => ?_⟩
  · rcases hx with rfl | rfl
    · simp only [P2.mk.injEq]; simp only at h1 h2; omega
    · simp only [P2.mk.injEq]; simp only at h1 h2; omega
  · subst hx
    simp only [P2.mk.injEq]; simp only at h1 h2; omega
/-- No two triangles use the same directed edge. -/
def Coh (ts : List T3) : Prop := ∀ (i j : Nat) (e : P2), i < ts.length → j < ts.length → e ∈ edgesOf (tAt ts i) → e ∈ edgesOf (tAt ts j) → i = j
theorem tAt_el {ts : List T3} {i : Nat} (h : i < ts.length) : ts[i] = tAt ts i := by
  have := tAt_get h
  rw [List.getElem?_eq_getElem h] at this
  exact Option.some.inj this
theorem coh_iff {ts : List T3} : (alluses ts).Nodup ↔ Coh ts := by
  have h0 : (alluses ts).Nodup ↔ (∀ t ∈ ts, (edgesOf t).Nodup) ∧ ts.Pairwise fun s t => ∀ x ∈ edgesOf s, ∀ y ∈ edgesOf t, x ≠ y := List.pairwise_flatMap
  rw [h0, List.pairwise_iff_getElem]
  constructor
  · rintro ⟨_, h⟩ i j e hi hj h1 h2
    rcases Nat.lt_trichotomy i j with hh | hh | hh
    · exact absurd rfl (h i j hi hj hh e (by rw [tAt_el hi]; exact h1) e (by rw [tAt_el hj]; exact h2))
    · exact hh
    · exact absurd rfl (h j i hj hi hh e (by rw [tAt_el hj]; exact h2) e (by rw [tAt_el hi]; exact h1))
  · intro h
    refine ⟨fun t _ => edgesOf_nodup t, fun i j hi hj hij x hx y hy => ?_⟩
    rintro rfl
    rw [tAt_el hi] at hx
    rw [tAt_el hj] at hy
    have := h i j x hi hj hx hy
    omega
theorem cohB_iff {ts : List T3} : cohB ts = true ↔ Coh ts := by unfold cohB; rw [decide_eq_true_eq]; exact coh_iff
theorem Fl.tat {ts us : List T3} (h : Fl ts us) {i : Nat} (hi : i < ts.length) : tAt us i = tAt ts i ∨ tAt us i = (tAt ts i).rev :=
  h.at_ i _ _ (tAt_get hi) (tAt_get (by rw [h.len]; exact hi))
theorem tAt_ext {us vs : List T3} (hl : us.length = vs.length) (h : ∀ i, i < us.length → tAt us i = tAt vs i) : us = vs := by
  apply List.ext_getElem?
  intro i
  by_cases hi : i < us.length
  · rw [tAt_get hi, tAt_get (by omega), h i hi]
  · rw [List.getElem?_eq_none (by omega), List.getElem?_eq_none (by omega)]
theorem adj_edge {ts : List T3} {i j : Nat} (h : adjI ts i j) : i < ts.length ∧ j < ts.length ∧ ∃ a ∈ edgesOf (tAt ts i), ∃ b ∈ edgesOf (tAt ts j), a.und = b.und := by
  have hl := h.lt
  obtain ⟨s, t, hs, ht, a, ha, b, hb, hab⟩ := h
  rw [tAt_get hl.1] at hs
  rw [tAt_get hl.2] at ht
  obtain rfl := Option.some.inj hs
  obtain rfl := Option.some.inj ht
  exact ⟨hl.1, hl.2, a, ha, b, hb, hab⟩
theorem adjI_of' {ts : List T3} {i j : Nat} (hi : i < ts.length) (hj : j < ts.length) {a b : P2} (ha : a ∈ edgesOf (tAt ts i)) (hb : b ∈ edgesOf (tAt ts j)) (h : a.und = b.und) : adjI ts i j :=
  ⟨_, _, tAt_get hi, tAt_get hj, a, ha, b, hb, h⟩
/-- A coherent orientation that keeps the first triangle of each shell. -/
structure Good (ts us : List T3) (L : List Int) : Prop where
  fl : Fl ts us
  coh : Coh us
  first : ∀ i : Nat, i < ts.length → L[i]? = some (i : Int) → tAt us i = tAt ts i
theorem Good.step {ts us vs : List T3} {L : List Int} (h : Good ts us L) (k : Good ts vs L) {i j : Nat} (ha : adjI ts i j) (he : tAt us i = tAt vs i) : tAt us j = tAt vs j := by
  obtain ⟨hi, hj, a, haa, b, hbb, hab⟩ := adj_edge (h.fl.adj ha)
  rw [h.fl.len] at hi hj
  by_cases hij : i = j
  · subst hij; exact he
  refine Decidable.byContradiction fun hne => ?_
  have hrev : tAt vs j = (tAt us j).rev := by
    rcases h.fl.tat hj with h1 | h1 <;> rcases k.fl.tat hj with h2 | h2
    · exact absurd (h1.trans h2.symm) hne
    · rw [h1, h2]
    · rw [h1, h2]; rfl
    · exact absurd (h1.trans h2.symm) hne
  rcases und_two hab with rfl | hab
  · exact hij (h.coh i j a (by rw [h.fl.len]; exact hi) (by rw [h.fl.len]; exact hj) haa hbb)
  · refine hij (k.coh i j a (by rw [k.fl.len]; exact hi) (by rw [k.fl.len]; exact hj) (by rw [← he]; exact haa) ?_)
    rw [hrev, mem_edges_rev, hab, rev_rev]
    exact hbb
theorem Good.eq {ts us vs : List T3} {L : List Int} (hL : IsLab ts L) (h : Good ts us L) (k : Good ts vs L) : us = vs := by
  refine tAt_ext (by rw [h.fl.len, k.fl.len]) fun j hj => ?_
  rw [h.fl.len] at hj
  have hv : L[j]? = some (L[j]'(by rw [hL.len]; exact hj)) := List.getElem?_eq_getElem _
  generalize L[j]'(by rw [hL.len]; exact hj) = v at hv
  obtain ⟨v0, v1, hc⟩ := hL.con j v hv
  have hvv := hL.conn hc
  rw [hv] at hvv
  have hc' := hc.symm
  have hvl := hc'.lt.1
  have hLv : L[v.toNat]? = some (v.toNat : Int) := by rw [← hvv]; congr 1; omega
  have h0 : tAt us v.toNat = tAt vs v.toNat := by rw [h.first _ hvl hLv, k.first _ hvl hLv]
  clear hv hvv hc hj v1
  induction hc' with
  | refl _ => exact h0
  | tail _ h2 ih => exact h.step k h2 ih
open Classical in
noncomputable def orientL (ts : List T3) : Option (List T3) := if h : ∃ us, Good ts us (labOf ts) then some (Classical.choose h) else none
theorem orientL_some {ts us : List T3} {L : List Int} (hL : IsLab ts L) (h : Good ts us L) : orientL ts = some us := by
  unfold orientL
  rw [labOf_eq hL]
  have hex : ∃ us, Good ts us L := ⟨us, h⟩
  rw [dif_pos hex]
  congr 1
  exact (Classical.choose_spec hex).eq hL h
theorem orientL_none {ts : List T3} {L : List Int} (hL : IsLab ts L) (h : ∀ us, ¬ Good ts us L) : orientL ts = none := by
  unfold orientL
  rw [labOf_eq hL, dif_neg]
  rintro ⟨us, hu⟩
  exact h us hu
theorem orientL_good {ts us : List T3} {L : List Int} (hL : IsLab ts L) (h : orientL ts = some us) : Good ts us L := by
  unfold orientL at h
  rw [labOf_eq hL] at h
  split at h
  · rename_i hex
    obtain rfl := Option.some.inj h
    exact Classical.choose_spec hex
  · simp at h
/-- How many triangles differ. -/
def difN (ts us : List T3) : Nat := ((List.range ts.length).filter fun i => decide (tAt us i ≠ tAt ts i)).length
noncomputable def oriR (m : Mesh) : Mesh × Int × Int :=
  if m.check ≠ 0 then (⟨[], []⟩, 0, m.check) else match orientL m.tris with
  | none => (⟨[], []⟩, 0, 13)
  | some us => (⟨m.verts, us⟩, difN m.tris us, 0)
def OrientC (P : Program) (f : FuncId) : Prop := ∀ m : Mesh, CallIs P f [m.enc] (mieV (oriR m))

theorem tAt_set {us : List T3} {j : Nat} (hj : j < us.length) (i : Nat) (t : T3) : tAt (us.set j t) i = if i = j then t else tAt us i := by
  unfold tAt
  by_cases h : i = j
  · subst h; rw [List.getElem?_set_self hj, if_pos rfl]; rfl
  · rw [List.getElem?_set_ne (fun hh => h hh.symm), if_neg h]
theorem Fl.set {ts us : List T3} (h : Fl ts us) {j : Nat} (hj : j < ts.length) : Fl ts (us.set j (tAt us j).rev) where
  len := by rw [List.length_set, h.len]
  at_ i t u h1 h2 := by
    have hi := (List.getElem?_eq_some_iff.1 h1).1
    have hju : j < us.length := by rw [h.len]; exact hj
    rw [tAt_get (by rw [List.length_set, h.len]; exact hi)] at h2
    rw [tAt_get hi] at h1
    obtain rfl := Option.some.inj h1
    obtain rfl := Option.some.inj h2
    rw [tAt_set hju]
    split
    · rename_i hh; subst hh
      rcases h.tat hj with h3 | h3
      · exact .inr (by rw [h3])
      · exact .inl (by rw [h3]; rfl)
    · exact h.tat hi
theorem Fl.refl (ts : List T3) : Fl ts ts := ⟨rfl, fun i t u h1 h2 => .inl (by rw [h1] at h2; exact (Option.some.inj h2).symm)⟩
theorem difN_self (ts : List T3) : difN ts ts = 0 := by unfold difN; simp
theorem filter_one {n j : Nat} (hj : j < n) {p q : Nat → Bool} (hq : ∀ i, i < n → q i = (if i = j then true else p i)) (hp : p j = false) : ((List.range n).filter q).length = ((List.range n).filter p).length + 1 := by
  induction n with
  | zero => omega
  | succ n ih =>
    rw [List.range_succ, List.filter_append, List.filter_append, List.length_append, List.length_append]
    by_cases h : j = n
    · subst h
      have h1 : (List.range j).filter q = (List.range j).filter p := by
        refine List.filter_congr fun i hi => ?_
        have := List.mem_range.1 hi
        rw [hq i (by omega), if_neg (by omega)]
      rw [h1]
      have h2 := hq j (by omega)
      rw [if_pos rfl] at h2
      simp [h2, hp]
    · have h1 := ih (by omega) fun i hi => hq i (by omega)
      have h2 := hq n (by omega)
      rw [if_neg (fun hh => h hh.symm)] at h2
      rw [h1]
      by_cases h3 : p n = true <;> simp [h2, h3] <;> omega
theorem difN_set {ts us : List T3} (hl : us.length = ts.length) {j : Nat} (hj : j < ts.length) (he : tAt us j = tAt ts j) {t : T3} (hne : t ≠ tAt ts j) : difN ts (us.set j t) = difN ts us + 1 := by
  unfold difN
  refine filter_one hj (fun i hi => ?_) (by simp [he])
  rw [tAt_set (by rw [hl]; exact hj)]
  by_cases h : i = j
  · subst h; simp [hne]
  · simp [h]
/-- What is known while the triangles X have been seen. -/
structure OrI (ts us : List T3) (L X : List Int) (n : Nat) : Prop where
  fl : Fl ts us
  new : ∀ i : Nat, i < ts.length → (i : Int) ∉ X → tAt us i = tAt ts i
  first : ∀ i : Nat, i < ts.length → L[i]? = some (i : Int) → tAt us i = tAt ts i
  num : n ≤ X.length
  good : ∀ vs, Good ts vs L → (∀ i : Nat, i < ts.length → (i : Int) ∈ X → tAt us i = tAt vs i) ∧ n = difN ts us
theorem OrI.start (ts : List T3) (L : List Int) : OrI ts ts L [] 0 :=
  ⟨Fl.refl ts, fun _ _ _ => rfl, fun _ _ _ => rfl, Nat.zero_le _, fun vs h => ⟨by simp, by rw [difN_self]⟩⟩
theorem mem_snoc {X : List Int} {k i : Int} : i ∈ X ++ [k] ↔ i ∈ X ∨ i = k := by simp
theorem OrI.top {ts us : List T3} {L X : List Int} {n : Nat} (h : OrI ts us L X n) {k : Nat} (hk : k < ts.length) (hx : (k : Int) ∉ X) (hL : L[k]? = some (k : Int)) : OrI ts us L (X ++ [(k : Int)]) n where
  fl := h.fl
  new i hi hn := h.new i hi fun hh => hn (mem_snoc.2 (.inl hh))
  first := h.first
  num := by have := h.num; simp; omega
  good vs hv := by
    obtain ⟨h1, h2⟩ := h.good vs hv
    refine ⟨fun i hi hm => ?_, h2⟩
    rcases mem_snoc.1 hm with hm | hm
    · exact h1 i hi hm
    · obtain rfl : i = k := by omega
      rw [h.first i hi hL, hv.first i hi hL]
theorem OrI.keep {ts us : List T3} {L X : List Int} {n : Nat} (h : OrI ts us L X n) {i k : Nat} (hi : i < ts.length) (hk : k < ts.length) (hix : (i : Int) ∈ X) (hx : (k : Int) ∉ X) {e : P2} (he : e ∈ edgesOf (tAt us i)) (hno : e ∉ edgesOf (tAt us k))
    {b : P2} (hb : b ∈ edgesOf (tAt ts k)) (hbe : b.und = e.und) : OrI ts us L (X ++ [(k : Int)]) n where
  fl := h.fl
  new i hi hn := h.new i hi fun hh => hn (mem_snoc.2 (.inl hh))
  first := h.first
  num := by have := h.num; simp; omega
  good vs hv := by
    obtain ⟨h1, h2⟩ := h.good vs hv
    refine ⟨fun j hj hm => ?_, h2⟩
    rcases mem_snoc.1 hm with hm | hm
    · exact h1 j hj hm
    · obtain rfl : j = k := by omega
      have huk := h.new j hj hx
      rw [huk] at hno ⊢
      rcases hv.fl.tat hj with h3 | h3
      · exact h3.symm
      · exfalso
        rcases und_two hbe with rfl | rfl
        · exact hno hb
        · have hij := hv.coh i j e (by rw [hv.fl.len]; exact hi) (by rw [hv.fl.len]; exact hj) (by rw [← h1 i hi hix]; exact he) (by rw [h3, mem_edges_rev]; exact hb)
          subst hij
          exact hx hix
theorem OrI.turn {ts us : List T3} {L X : List Int} {n : Nat} (h : OrI ts us L X n) {i k : Nat} (hi : i < ts.length) (hk : k < ts.length) (hix : (i : Int) ∈ X) (hx : (k : Int) ∉ X) (hL : L[k]? ≠ some (k : Int)) {e : P2} (he : e ∈ edgesOf (tAt us i)) (hye : e ∈ edgesOf (tAt us k)) :
    OrI ts (us.set k (tAt us k).rev) L (X ++ [(k : Int)]) (n + 1) where
  fl := h.fl.set hk
  new j hj hn := by
    rw [tAt_set (by rw [h.fl.len]; exact hk), if_neg (fun hh => hn (mem_snoc.2 (.inr (by omega))))]
    exact h.new j hj fun hh => hn (mem_snoc.2 (.inl hh))
  first j hj hLj := by
    rw [tAt_set (by rw [h.fl.len]; exact hk), if_neg (by rintro rfl; exact hL hLj)]
    exact h.first j hj hLj
  num := by have := h.num; simp; omega
  good vs hv := by
    obtain ⟨h1, h2⟩ := h.good vs hv
    have huk := h.new k hk hx
    have hvk : tAt vs k = (tAt us k).rev := by
      rw [huk] at hye ⊢
      rcases hv.fl.tat hk with h3 | h3
      · exfalso
        have hij := hv.coh i k e (by rw [hv.fl.len]; exact hi) (by rw [hv.fl.len]; exact hk) (by rw [← h1 i hi hix]; exact he) (by rw [h3]; exact hye)
        subst hij
        exact hx hix
      · exact h3
    refine ⟨fun j hj hm => ?_, ?_⟩
    · rw [tAt_set (by rw [h.fl.len]; exact hk)]
      split
      · rename_i hh; subst hh; exact hvk.symm
      · rename_i hh
        rcases mem_snoc.1 hm with hm | hm
        · exact h1 j hj hm
        · omega
    · rw [difN_set h.fl.len hk huk, h2]
      intro hh
      have hij := hv.coh i k e (by rw [hv.fl.len]; exact hi) (by rw [hv.fl.len]; exact hk) (by rw [← h1 i hi hix]; exact he) (by rw [hvk, hh, ← huk]; exact hye)
      subst hij
      exact hx hix
/-- What comes out when all have been seen. -/
theorem OrI.done {ts us : List T3} {L X : List Int} {n : Nat} (hL : IsLab ts L) (h : OrI ts us L X n) (hall : ∀ i : Nat, i < ts.length → (i : Int) ∈ X) :
    (Coh us → orientL ts = some us ∧ n = difN ts us) ∧ (¬ Coh us → orientL ts = none) := by
  constructor
  · intro hc
    have hg : Good ts us L := ⟨h.fl, hc, h.first⟩
    exact ⟨orientL_some hL hg, (h.good us hg).2⟩
  · intro hc
    refine orientL_none hL fun vs hv => hc ?_
    obtain ⟨h1, _⟩ := h.good vs hv
    have : us = vs := tAt_ext (by rw [h.fl.len, hv.fl.len]) fun i hi => by
      rw [h.fl.len] at hi
      exact h1 i hi (hall i hi)
    rw [this]
    exact hv.coh
end Go.Abs
set_option linter.unusedVariables false
set_option linter.unusedSimpArgs false
namespace Go.Abs

def law11_OrientFlips.c (law11_Small mesh_Check law11_awake topo_Shells ref11_Reversed orient_Orient law11_same : FuncId) : C :=
 (.seq
  (.reg [
    ⟨(some 2), none, .box (.t 0)⟩,
    ⟨(some 4), none, .mv (.c (.b false))⟩])
  (.seq
   (.seq
    (.reg [
      ⟨(some 20), none, .ld (some 2) (.t 2)⟩,
      ⟨(some 21), none, .call law11_Small [(.t 20)]⟩,
      ⟨(some 22), none, .un .not (.t 21)⟩,
      ⟨(some 23), none, .mv (.t 22)⟩,
      ⟨(some 24), (some (23, false)), .ld (some 2) (.t 2)⟩,
      ⟨(some 25), (some (23, false)), .call mesh_Check [(.t 24)]⟩,
      ⟨(some 26), (some (23, false)), .bin .neq (.t 25) (.c (.i .i64 0))⟩,
      ⟨(some 27), none, .pick (.t 23) (.c (.b true)) (.t 26)⟩])
    (.ite (.t 27)
     (.seq
      (.reg [
        ⟨(some 28), none, .call law11_awake []⟩,
        ⟨(some 4), none, .mv (.t 28)⟩])
      .ret)
     .skip))
   (.seq
    (.reg [
      ⟨(some 29), none, .fa 1 (.t 2)⟩,
      ⟨(some 30), none, .ld none (.t 29)⟩,
      ⟨(some 31), none, .len 0 (.t 30)⟩,
      ⟨(some 32), none, .mks 1 1 [(.b false)] (.t 31)⟩,
      ⟨(some 5), none, .mv (.t 32)⟩])
    (.seq
     (.reg [
       ⟨(some 33), none, .ld (some 2) (.t 2)⟩,
       ⟨(some 34), none, .call topo_Shells [(.t 33)]⟩,
       ⟨(some 6), none, .mv (.t 34)⟩])
     (.seq
      (.seq
       (.reg [
         ⟨(some 7), none, .mv (.c (.i .i64 0))⟩])
       (.blk 0
        (.loop
         (.seq
          (.seq
           (.reg [
             ⟨(some 35), none, .mv (.t 7)⟩,
             ⟨(some 36), none, .mv (.t 6)⟩,
             ⟨(some 37), none, .len 0 (.t 36)⟩,
             ⟨(some 38), none, .bin .lss (.t 35) (.t 37)⟩])
           (.ite (.t 38)
            .skip
            (.exit 0)))
          (.seq
           (.blk 1
            (.seq
             (.reg [
               ⟨(some 41), none, .mv (.t 6)⟩,
               ⟨(some 42), none, .mv (.t 7)⟩,
               ⟨(some 43), none, .ia 1 (.t 41) (.t 42)⟩,
               ⟨(some 44), none, .ld none (.t 43)⟩,
               ⟨(some 45), none, .len 0 (.t 44)⟩,
               ⟨(some 46), none, .bin .gtr (.t 45) (.c (.i .i64 0))⟩,
               ⟨(some 47), none, .mv (.t 46)⟩,
               ⟨(some 48), (some (47, true)), .mv (.t 6)⟩,
               ⟨(some 49), (some (47, true)), .mv (.t 7)⟩,
               ⟨(some 50), (some (47, true)), .ia 1 (.t 48) (.t 49)⟩,
               ⟨(some 51), (some (47, true)), .ld none (.t 50)⟩,
               ⟨(some 52), (some (47, true)), .ia 1 (.t 51) (.c (.i .i64 0))⟩,
               ⟨(some 53), (some (47, true)), .ld none (.t 52)⟩,
               ⟨(some 54), (some (47, true)), .bin .geq (.t 53) (.c (.i .i64 0))⟩,
               ⟨(some 55), none, .pick (.t 47) (.t 54) (.c (.b false))⟩,
               ⟨(some 56), none, .mv (.t 55)⟩,
               ⟨(some 57), (some (56, true)), .mv (.t 6)⟩,
               ⟨(some 58), (some (56, true)), .mv (.t 7)⟩,
               ⟨(some 59), (some (56, true)), .ia 1 (.t 57) (.t 58)⟩,
               ⟨(some 60), (some (56, true)), .ld none (.t 59)⟩,
               ⟨(some 61), (some (56, true)), .ia 1 (.t 60) (.c (.i .i64 0))⟩,
               ⟨(some 62), (some (56, true)), .ld none (.t 61)⟩,
               ⟨(some 63), (some (56, true)), .mv (.t 5)⟩,
               ⟨(some 64), (some (56, true)), .len 0 (.t 63)⟩,
               ⟨(some 65), (some (56, true)), .bin .lss (.t 62) (.t 64)⟩,
               ⟨(some 66), none, .pick (.t 56) (.t 65) (.c (.b false))⟩])
             (.ite (.t 66)
              (.reg [
                ⟨(some 67), none, .mv (.t 5)⟩,
                ⟨(some 68), none, .mv (.t 6)⟩,
                ⟨(some 69), none, .mv (.t 7)⟩,
                ⟨(some 70), none, .ia 1 (.t 68) (.t 69)⟩,
                ⟨(some 71), none, .ld none (.t 70)⟩,
                ⟨(some 72), none, .ia 1 (.t 71) (.c (.i .i64 0))⟩,
                ⟨(some 73), none, .ld none (.t 72)⟩,
                ⟨(some 74), none, .ia 1 (.t 67) (.t 73)⟩,
                ⟨none, none, .st 1 (.t 74) (.c (.b true))⟩])
              .skip)))
           (.reg [
             ⟨(some 39), none, .mv (.t 7)⟩,
             ⟨(some 40), none, .bin .add (.t 39) (.c (.i .i64 1))⟩,
             ⟨(some 7), none, .mv (.t 40)⟩]))))))
      (.seq
       (.drw [
         ⟨(some 75), none, .fa 0 (.t 2)⟩,
         ⟨(some 76), none, .ld none (.t 75)⟩,
         ⟨(some 77), none, .bso 3 0 [(.i .i64 0), (.i .i64 0), (.i .i64 0)] []⟩,
         ⟨(some 78), none, .fa 1 (.t 2)⟩,
         ⟨(some 79), none, .ld none (.t 78)⟩,
         ⟨(some 80), none, .app 3 24 (.t 77) (.t 79)⟩,
         ⟨(some 81), none, .build [.nil, .nil] [(0, 1, (.t 76)), (1, 1, (.t 80))]⟩,
         ⟨(some 8), none, .alloc [.nil, .nil]⟩,
         ⟨none, none, .st 2 (.t 8) (.t 81)⟩] [[], [], [], [], [], [0, 1], [], [], []])
       (.seq
        (.drw [
          ⟨(some 82), none, .fa 0 (.t 2)⟩,
          ⟨(some 83), none, .ld none (.t 82)⟩,
          ⟨(some 84), none, .bso 3 0 [(.i .i64 0), (.i .i64 0), (.i .i64 0)] []⟩,
          ⟨(some 85), none, .fa 1 (.t 2)⟩,
          ⟨(some 86), none, .ld none (.t 85)⟩,
          ⟨(some 87), none, .app 3 24 (.t 84) (.t 86)⟩,
          ⟨(some 88), none, .build [.nil, .nil] [(0, 1, (.t 83)), (1, 1, (.t 87))]⟩,
          ⟨(some 9), none, .alloc [.nil, .nil]⟩,
          ⟨none, none, .st 2 (.t 9) (.t 88)⟩] [[], [], [], [], [], [0, 1], [], [], []])
        (.seq
         (.seq
          (.reg [
            ⟨(some 10), none, .mv (.c (.i .i64 0))⟩])
          (.blk 2
           (.loop
            (.seq
             (.seq
              (.reg [
                ⟨(some 89), none, .mv (.t 10)⟩,
                ⟨(some 90), none, .fa 1 (.t 2)⟩,
                ⟨(some 91), none, .ld none (.t 90)⟩,
                ⟨(some 92), none, .len 0 (.t 91)⟩,
                ⟨(some 93), none, .bin .lss (.t 89) (.t 92)⟩])
              (.ite (.t 93)
               .skip
               (.exit 2)))
             (.seq
              (.blk 3
               (.seq
                (.reg [
                  ⟨(some 96), none, .mv (.t 1)⟩,
                  ⟨(some 97), none, .mv (.t 10)⟩,
                  ⟨(some 98), none, .cvi .u64 (.t 97)⟩,
                  ⟨(some 99), none, .bin .shr (.t 96) (.t 98)⟩,
                  ⟨(some 100), none, .bin .and (.t 99) (.c (.i .u64 1))⟩,
                  ⟨(some 101), none, .bin .eql (.t 100) (.c (.i .u64 1))⟩])
                (.ite (.t 101)
                 (.seq
                  (.drw [
                    ⟨(some 102), none, .fa 1 (.t 9)⟩,
                    ⟨(some 103), none, .ld none (.t 102)⟩,
                    ⟨(some 104), none, .mv (.t 10)⟩,
                    ⟨(some 105), none, .fa 1 (.t 2)⟩,
                    ⟨(some 106), none, .ld none (.t 105)⟩,
                    ⟨(some 107), none, .mv (.t 10)⟩,
                    ⟨(some 108), none, .ia 3 (.t 106) (.t 107)⟩,
                    ⟨(some 109), none, .ld (some 3) (.t 108)⟩,
                    ⟨(some 110), none, .call ref11_Reversed [(.t 109)]⟩,
                    ⟨(some 111), none, .ia 3 (.t 103) (.t 104)⟩,
                    ⟨none, none, .st 3 (.t 111) (.t 110)⟩] [[], [], [], [], [], [], [], [], [0, 1], [], []])
                  (.seq
                   (.reg [
                     ⟨(some 112), none, .mv (.t 5)⟩,
                     ⟨(some 113), none, .mv (.t 10)⟩,
                     ⟨(some 114), none, .ia 1 (.t 112) (.t 113)⟩,
                     ⟨(some 115), none, .ld none (.t 114)⟩,
                     ⟨(some 116), none, .un .not (.t 115)⟩])
                   (.ite (.t 116)
                    (.drw [
                      ⟨(some 117), none, .fa 1 (.t 8)⟩,
                      ⟨(some 118), none, .ld none (.t 117)⟩,
                      ⟨(some 119), none, .mv (.t 10)⟩,
                      ⟨(some 120), none, .fa 1 (.t 9)⟩,
                      ⟨(some 121), none, .ld none (.t 120)⟩,
                      ⟨(some 122), none, .mv (.t 10)⟩,
                      ⟨(some 123), none, .ia 3 (.t 121) (.t 122)⟩,
                      ⟨(some 124), none, .ld (some 3) (.t 123)⟩,
                      ⟨(some 125), none, .ia 3 (.t 118) (.t 119)⟩,
                      ⟨none, none, .st 3 (.t 125) (.t 124)⟩] [])
                    .skip)))
                 .skip)))
              (.reg [
                ⟨(some 94), none, .mv (.t 10)⟩,
                ⟨(some 95), none, .bin .add (.t 94) (.c (.i .i64 1))⟩,
                ⟨(some 10), none, .mv (.t 95)⟩]))))))
         (.seq
          (.reg [
            ⟨(some 127), none, .ld (some 2) (.t 2)⟩,
            ⟨(some 128), none, .call orient_Orient [(.t 127)]⟩,
            ⟨(some 126), none, .mv (.t 128)⟩,
            ⟨(some 129), none, .ext (.t 126) 0⟩,
            ⟨(some 130), none, .ext (.t 126) 1⟩,
            ⟨(some 131), none, .ext (.t 126) 2⟩,
            ⟨(some 11), none, .alloc [.nil, .nil]⟩,
            ⟨none, none, .st 2 (.t 11) (.t 129)⟩,
            ⟨(some 12), none, .mv (.t 130)⟩,
            ⟨(some 13), none, .mv (.t 131)⟩])
          (.seq
           (.reg [
             ⟨(some 133), none, .ld (some 2) (.t 8)⟩,
             ⟨(some 134), none, .call orient_Orient [(.t 133)]⟩,
             ⟨(some 132), none, .mv (.t 134)⟩,
             ⟨(some 135), none, .ext (.t 132) 0⟩,
             ⟨(some 136), none, .ext (.t 132) 1⟩,
             ⟨(some 137), none, .ext (.t 132) 2⟩,
             ⟨(some 14), none, .alloc [.nil, .nil]⟩,
             ⟨none, none, .st 2 (.t 14) (.t 135)⟩,
             ⟨(some 15), none, .mv (.t 136)⟩,
             ⟨(some 16), none, .mv (.t 137)⟩])
           (.seq
            (.reg [
              ⟨(some 139), none, .ld (some 2) (.t 9)⟩,
              ⟨(some 140), none, .call orient_Orient [(.t 139)]⟩,
              ⟨(some 138), none, .mv (.t 140)⟩,
              ⟨(some 141), none, .ext (.t 138) 0⟩,
              ⟨(some 142), none, .ext (.t 138) 1⟩,
              ⟨(some 143), none, .ext (.t 138) 2⟩,
              ⟨(some 17), none, .alloc [.nil, .nil]⟩,
              ⟨none, none, .st 2 (.t 17) (.t 141)⟩,
              ⟨(some 18), none, .mv (.t 142)⟩,
              ⟨(some 19), none, .mv (.t 143)⟩])
            (.seq
             (.reg [
               ⟨(some 144), none, .mv (.t 13)⟩,
               ⟨(some 145), none, .mv (.t 16)⟩,
               ⟨(some 146), none, .bin .eql (.t 144) (.t 145)⟩,
               ⟨(some 147), none, .mv (.t 146)⟩,
               ⟨(some 148), (some (147, true)), .mv (.t 13)⟩,
               ⟨(some 149), (some (147, true)), .mv (.t 19)⟩,
               ⟨(some 150), (some (147, true)), .bin .eql (.t 148) (.t 149)⟩,
               ⟨(some 151), none, .pick (.t 147) (.t 150) (.c (.b false))⟩,
               ⟨(some 152), none, .mv (.t 151)⟩,
               ⟨(some 153), (some (152, true)), .mv (.t 6)⟩,
               ⟨(some 154), (some (152, true)), .len 0 (.t 153)⟩,
               ⟨(some 155), (some (152, true)), .bin .eql (.t 154) (.c (.i .i64 0))⟩,
               ⟨(some 156), (some (152, true)), .mv (.t 155)⟩,
               ⟨(some 157), (some (156, false)), .ld (some 2) (.t 11)⟩,
               ⟨(some 158), (some (156, false)), .ld (some 2) (.t 14)⟩,
               ⟨(some 159), (some (156, false)), .call law11_same [(.t 157), (.t 158)]⟩,
               ⟨(some 160), (some (152, true)), .pick (.t 156) (.c (.b true)) (.t 159)⟩,
               ⟨(some 161), none, .pick (.t 152) (.t 160) (.c (.b false))⟩,
               ⟨(some 162), none, .mv (.t 161)⟩,
               ⟨(some 163), (some (162, true)), .call law11_awake []⟩,
               ⟨(some 164), none, .pick (.t 162) (.t 163) (.c (.b false))⟩,
               ⟨(some 4), none, .mv (.t 164)⟩])
             .ret))))))))))))
def law11_OrientFlips.r : List Rr := [.tmp 4]
abbrev law11_OrientFlips.n : Nat := 165
def ref11_Reversed.c : C :=
 (.seq
  (.reg [
    ⟨(some 1), none, .box (.t 0)⟩,
    ⟨(some 2), none, .alloc [(.i .i64 0), (.i .i64 0), (.i .i64 0)]⟩])
  (.seq
   (.reg [
     ⟨(some 3), none, .fa 0 (.t 1)⟩,
     ⟨(some 4), none, .ld none (.t 3)⟩,
     ⟨(some 5), none, .fa 2 (.t 1)⟩,
     ⟨(some 6), none, .ld none (.t 5)⟩,
     ⟨(some 7), none, .fa 1 (.t 1)⟩,
     ⟨(some 8), none, .ld none (.t 7)⟩,
     ⟨(some 9), none, .build [(.i .i64 0), (.i .i64 0), (.i .i64 0)] [(0, 1, (.t 4)), (1, 1, (.t 6)), (2, 1, (.t 8))]⟩,
     ⟨none, none, .st 3 (.t 2) (.t 9)⟩])
   .ret))
def ref11_Reversed.r : List Rr := [.cell 2 (some 3)]
abbrev ref11_Reversed.n : Nat := 10
def law11_same.c (law11_vecs ref11_Reversed : FuncId) : C :=
 (.seq
  (.reg [
    ⟨(some 2), none, .box (.t 0)⟩,
    ⟨(some 3), none, .box (.t 1)⟩,
    ⟨(some 4), none, .mv (.c (.b false))⟩])
  (.seq
   (.seq
    (.reg [
      ⟨(some 8), none, .fa 1 (.t 2)⟩,
      ⟨(some 9), none, .ld none (.t 8)⟩,
      ⟨(some 10), none, .len 0 (.t 9)⟩,
      ⟨(some 11), none, .fa 1 (.t 3)⟩,
      ⟨(some 12), none, .ld none (.t 11)⟩,
      ⟨(some 13), none, .len 0 (.t 12)⟩,
      ⟨(some 14), none, .bin .neq (.t 10) (.t 13)⟩,
      ⟨(some 15), none, .mv (.t 14)⟩,
      ⟨(some 16), (some (15, false)), .fa 0 (.t 2)⟩,
      ⟨(some 17), (some (15, false)), .ld none (.t 16)⟩,
      ⟨(some 18), (some (15, false)), .fa 0 (.t 3)⟩,
      ⟨(some 19), (some (15, false)), .ld none (.t 18)⟩,
      ⟨(some 20), (some (15, false)), .call law11_vecs [(.t 17), (.t 19)]⟩,
      ⟨(some 21), (some (15, false)), .un .not (.t 20)⟩,
      ⟨(some 22), none, .pick (.t 15) (.c (.b true)) (.t 21)⟩])
    (.ite (.t 22)
     (.seq
      (.reg [
        ⟨(some 4), none, .mv (.c (.b false))⟩])
      .ret)
     .skip))
   (.seq
    (.seq
     (.reg [
       ⟨(some 5), none, .mv (.c (.i .i64 0))⟩])
     (.blk 0
      (.loop
       (.seq
        (.seq
         (.reg [
           ⟨(some 23), none, .mv (.t 5)⟩,
           ⟨(some 24), none, .fa 1 (.t 2)⟩,
           ⟨(some 25), none, .ld none (.t 24)⟩,
           ⟨(some 26), none, .len 0 (.t 25)⟩,
           ⟨(some 27), none, .bin .lss (.t 23) (.t 26)⟩])
         (.ite (.t 27)
          .skip
          (.exit 0)))
        (.seq
         (.blk 1
          (.seq
           (.reg [
             ⟨(some 30), none, .fa 1 (.t 2)⟩,
             ⟨(some 31), none, .ld none (.t 30)⟩,
             ⟨(some 32), none, .mv (.t 5)⟩,
             ⟨(some 33), none, .ia 3 (.t 31) (.t 32)⟩,
             ⟨(some 34), none, .ld (some 3) (.t 33)⟩,
             ⟨(some 6), none, .alloc [(.i .i64 0), (.i .i64 0), (.i .i64 0)]⟩,
             ⟨none, none, .st 3 (.t 6) (.t 34)⟩])
           (.seq
            (.reg [
              ⟨(some 35), none, .fa 0 (.t 6)⟩,
              ⟨(some 36), none, .ld none (.t 35)⟩,
              ⟨(some 37), none, .fa 1 (.t 6)⟩,
              ⟨(some 38), none, .ld none (.t 37)⟩,
              ⟨(some 39), none, .bin .eql (.t 36) (.t 38)⟩,
              ⟨(some 40), none, .mv (.t 39)⟩,
              ⟨(some 41), (some (40, false)), .fa 1 (.t 6)⟩,
              ⟨(some 42), (some (40, false)), .ld none (.t 41)⟩,
              ⟨(some 43), (some (40, false)), .fa 2 (.t 6)⟩,
              ⟨(some 44), (some (40, false)), .ld none (.t 43)⟩,
              ⟨(some 45), (some (40, false)), .bin .eql (.t 42) (.t 44)⟩,
              ⟨(some 46), none, .pick (.t 40) (.c (.b true)) (.t 45)⟩,
              ⟨(some 47), none, .mv (.t 46)⟩,
              ⟨(some 48), (some (47, false)), .fa 2 (.t 6)⟩,
              ⟨(some 49), (some (47, false)), .ld none (.t 48)⟩,
              ⟨(some 50), (some (47, false)), .fa 0 (.t 6)⟩,
              ⟨(some 51), (some (47, false)), .ld none (.t 50)⟩,
              ⟨(some 52), (some (47, false)), .bin .eql (.t 49) (.t 51)⟩,
              ⟨(some 53), none, .pick (.t 47) (.c (.b true)) (.t 52)⟩,
              ⟨(some 7), none, .mv (.t 53)⟩])
            (.seq
             (.drw [
               ⟨(some 54), none, .ld (some 3) (.t 6)⟩,
               ⟨(some 55), none, .fa 1 (.t 3)⟩,
               ⟨(some 56), none, .ld none (.t 55)⟩,
               ⟨(some 57), none, .mv (.t 5)⟩,
               ⟨(some 58), none, .ia 3 (.t 56) (.t 57)⟩,
               ⟨(some 59), none, .ld (some 3) (.t 58)⟩,
               ⟨(some 60), none, .eqa [1, 1, 1] true (.t 54) (.t 59)⟩,
               ⟨(some 61), none, .mv (.t 60)⟩,
               ⟨(some 62), (some (61, true)), .mv (.t 7)⟩,
               ⟨(some 63), (some (61, true)), .mv (.t 62)⟩,
               ⟨(some 64), (some (63, true)), .ld (some 3) (.t 6)⟩,
               ⟨(some 65), (some (63, true)), .fa 1 (.t 3)⟩,
               ⟨(some 66), (some (63, true)), .ld none (.t 65)⟩,
               ⟨(some 67), (some (63, true)), .mv (.t 5)⟩,
               ⟨(some 68), (some (63, true)), .ia 3 (.t 66) (.t 67)⟩,
               ⟨(some 69), (some (63, true)), .ld (some 3) (.t 68)⟩,
               ⟨(some 70), (some (63, true)), .call ref11_Reversed [(.t 69)]⟩,
               ⟨(some 71), (some (63, true)), .eqa [1, 1, 1] false (.t 64) (.t 70)⟩,
               ⟨(some 72), (some (61, true)), .pick (.t 63) (.t 71) (.c (.b false))⟩,
               ⟨(some 73), (some (61, true)), .un .not (.t 72)⟩,
               ⟨(some 74), none, .pick (.t 61) (.t 73) (.c (.b false))⟩] [[], [], [], [], [], [], [], [], [], [], [], [], [], [], [], [], [10], [], [], [], []])
             (.ite (.t 74)
              (.seq
               (.reg [
                 ⟨(some 4), none, .mv (.c (.b false))⟩])
               .ret)
              .skip)))))
         (.reg [
           ⟨(some 28), none, .mv (.t 5)⟩,
           ⟨(some 29), none, .bin .add (.t 28) (.c (.i .i64 1))⟩,
           ⟨(some 5), none, .mv (.t 29)⟩]))))))
    (.seq
     (.reg [
       ⟨(some 4), none, .mv (.c (.b true))⟩])
     .ret))))
def law11_same.r : List Rr := [.tmp 4]
abbrev law11_same.n : Nat := 75
def law11_vecs.c : C :=
 (.seq
  (.reg [
    ⟨(some 4), none, .mv (.c (.b false))⟩])
  (.seq
   (.seq
    (.reg [
      ⟨(some 6), none, .mv (.t 0)⟩,
      ⟨(some 7), none, .len 0 (.t 6)⟩,
      ⟨(some 8), none, .mv (.t 1)⟩,
      ⟨(some 9), none, .len 0 (.t 8)⟩,
      ⟨(some 10), none, .bin .neq (.t 7) (.t 9)⟩])
    (.ite (.t 10)
     (.seq
      (.reg [
        ⟨(some 4), none, .mv (.c (.b false))⟩])
      .ret)
     .skip))
   (.seq
    (.seq
     (.reg [
       ⟨(some 5), none, .mv (.c (.i .i64 0))⟩])
     (.blk 0
      (.loop
       (.seq
        (.seq
         (.reg [
           ⟨(some 11), none, .mv (.t 5)⟩,
           ⟨(some 12), none, .mv (.t 0)⟩,
           ⟨(some 13), none, .len 0 (.t 12)⟩,
           ⟨(some 14), none, .bin .lss (.t 11) (.t 13)⟩])
         (.ite (.t 14)
          .skip
          (.exit 0)))
        (.seq
         (.blk 1
          (.seq
           (.drw [
             ⟨(some 17), none, .mv (.t 0)⟩,
             ⟨(some 18), none, .mv (.t 5)⟩,
             ⟨(some 19), none, .ia 3 (.t 17) (.t 18)⟩,
             ⟨(some 20), none, .ld (some 3) (.t 19)⟩,
             ⟨(some 21), none, .mv (.t 1)⟩,
             ⟨(some 22), none, .mv (.t 5)⟩,
             ⟨(some 23), none, .ia 3 (.t 21) (.t 22)⟩,
             ⟨(some 24), none, .ld (some 3) (.t 23)⟩,
             ⟨(some 25), none, .eqa [1, 1, 1] true (.t 20) (.t 24)⟩] [])
           (.ite (.t 25)
            (.seq
             (.reg [
               ⟨(some 4), none, .mv (.c (.b false))⟩])
             .ret)
            .skip)))
         (.reg [
           ⟨(some 15), none, .mv (.t 5)⟩,
           ⟨(some 16), none, .bin .add (.t 15) (.c (.i .i64 1))⟩,
           ⟨(some 5), none, .mv (.t 16)⟩]))))))
    (.seq
     (.reg [
       ⟨(some 4), none, .mv (.c (.b true))⟩])
     .ret))))
def law11_vecs.r : List Rr := [.tmp 4]
abbrev law11_vecs.n : Nat := 26
end Go.Abs
set_option linter.unusedVariables false
set_option linter.unusedSimpArgs false
namespace Go.Abs

def RevTC (P : Program) (f : FuncId) : Prop := ∀ t : T3, CallIs P f [t.enc] t.rev.enc

section
variable {P : Program} (hm : P.follows .mixedOrders = true)
include hm

theorem orient_reversed_ok {f : FuncId} (hf : FnOk P f orient_reversed.c orient_reversed.r orient_reversed.n) : RevTC P f := by
  intro t
  refine PureC.is (pure_of hm hf (Nat.le_of_ble_eq_true rfl) ?_) rfl
  unfold orient_reversed.c
  simp [go_sem, T3.enc, T3.cs, T3.rev, orient_reversed.r]
theorem ref11_Reversed_ok {f : FuncId} (hf : FnOk P f ref11_Reversed.c ref11_Reversed.r ref11_Reversed.n) : RevTC P f := orient_reversed_ok hm hf

end
end Go.Abs
set_option linter.unusedVariables false
set_option linter.unusedSimpArgs false
namespace Go.Abs

theorem p2_ext {x y : P2} (h1 : x.x = y.x) (h2 : x.y = y.y) : x = y := by cases x; cases y; simp_all

section
variable {P : Program} (hm : P.follows .mixedOrders = true)
include hm

end
end Go.Abs
set_option linter.unusedVariables false
set_option linter.unusedSimpArgs false
namespace Go.Abs

def HasEC (P : Program) (f : FuncId) : Prop := ∀ (l : List P2) (e : P2), l.length ≤ 1000 → CallIs P f [psV l, e.enc] (.b (decide (e ∈ l)))
def IdxEC (P : Program) (f : FuncId) : Prop := ∀ (l : List P2) (e : P2), l.length ≤ 1000 → CallIs P f [psV l, e.enc] (.i .i64 (if e ∈ l then (l.idxOf e : Int) else -1))

/-- A heap in which five objects are turned. -/
structure HB (H : O → O → O → O → O → List O) (n a sa b tb c d q : Nat) : Prop where
  len : ∃ N, ∀ s t u v w, (H s t u v w).length = N
  ga : ∀ s t u v w l, (H s t u v w ++ l)[a]? = some (.arr 1 1 [[.own sa 1 0 n]])
  gs : ∀ s t u v w l, (H s t u v w ++ l)[sa]? = some s
  gb : ∀ s t u v w l, (H s t u v w ++ l)[b]? = some (.arr 1 1 [[.own tb 1 0 n]])
  gt : ∀ s t u v w l, (H s t u v w ++ l)[tb]? = some t
  gc : ∀ s t u v w l, (H s t u v w ++ l)[c]? = some u
  gd : ∀ s t u v w l, (H s t u v w ++ l)[d]? = some v
  gq : ∀ s t u v w l, (H s t u v w ++ l)[q]? = some w
  ss : ∀ s t u v w l o, (H s t u v w ++ l).set sa o = H o t u v w ++ l
  st : ∀ s t u v w l o, (H s t u v w ++ l).set tb o = H s o u v w ++ l
  sc : ∀ s t u v w l o, (H s t u v w ++ l).set c o = H s t o v w ++ l
  sd : ∀ s t u v w l o, (H s t u v w ++ l).set d o = H s t u o w ++ l
  sq : ∀ s t u v w l o, (H s t u v w ++ l).set q o = H s t u v o ++ l
/-- The state of the walk. -/
structure OS where
  X : List Int
  us : List T3
  fl : Nat
  g : Nat
  off : Nat
  Q : List Int
def oH (H : O → O → O → O → O → List O) (n q : Nat) (s : OS) : List O :=
  H (.arr 1 1 (mk n s.X)) (.arr 1 3 (s.us.map T3.cs)) (.arr 1 1 [[.i .i64 s.fl]]) (.arr 1 1 [[.own q s.g s.off (s.Q.length - s.off)]]) (.arr s.g 1 (ics s.Q))
/-- What a visit makes of it. -/
def OS.visit (s : OS) (k : Nat) (e : P2) : OS :=
  if (k : Int) ∈ s.X then s
  else if e ∈ edgesOf (tAt s.us k) then ⟨s.X ++ [(k : Int)], s.us.set k (tAt s.us k).rev, s.fl + 1, s.g + 1, 0, s.Q.drop s.off ++ [(k : Int)]⟩
  else ⟨s.X ++ [(k : Int)], s.us, s.fl, s.g + 1, 0, s.Q.drop s.off ++ [(k : Int)]⟩
def VisitC (P : Program) (f : FuncId) : Prop := ∀ (H : O → O → O → O → O → List O) (n a sa b tb c d q : Nat), HB H n a sa b tb c d q → ∀ (s : OS) (l : List O) (k : Nat) (e : P2), s.us.length = n → k < n → n ≤ 4096 → s.fl ≤ 4096 → s.off ≤ s.Q.length → s.Q.length - s.off ≤ 8192 →
  ACall P f [.i .i64 k, e.enc, .p a 1 0 0, .p b 1 0 0, .p c 1 0 0, .p d 1 0 0] (oH H n q s ++ l) (fun r h' => r = .t [] ∧ h' = oH H n q (s.visit k e) ++ (l ++ [.arr 1 2 [e.cs]]))

theorem idx_at {l : List P2} {e x : P2} {k : Nat} (hp : l[k]? = some x) (hn : e ∉ l.take k) (h : e = x) : e ∈ l ∧ l.idxOf e = k := by
  subst h
  have hlt := (List.getElem?_eq_some_iff.1 hp).1
  refine ⟨List.mem_of_getElem? hp, ?_⟩
  have h1 := List.take_append_drop k l
  rw [List.drop_eq_getElem_cons hlt, (List.getElem?_eq_some_iff.1 hp).2] at h1
  have h2 : (l.take k ++ e :: l.drop (k + 1)).idxOf e = k := by
    rw [List.idxOf_append, if_neg hn, List.idxOf_cons_self]; simp; omega
  rw [h1] at h2
  exact h2

section
variable {P : Program} (hm : P.follows .mixedOrders = true)
include hm

theorem orient_both_ok {f : FuncId} (hf : FnOk P f orient_both.c orient_both.r orient_both.n) : UndC P f := topo_undirected_ok hm hf

set_option maxHeartbeats 4000000 in
theorem slices_IndexE_ok {f : FuncId} (hf : FnOk P f slices_Index_api_Edge_api_Edge.c slices_Index_api_Edge_api_Edge.r slices_Index_api_Edge_api_Edge.n) : IdxEC P f := by
  intro l e hl
  refine PureC.is (pure_of hm hf (Nat.le_of_ble_eq_true rfl) ?_) rfl
  unfold slices_Index_api_Edge_api_Edge.c
  simp [go_sem, psV, P2.enc, P2.cs]
  refine AS_loop (α := Nat) (fun k => k ≤ l.length ∧ e ∉ l.take k)
    (fun k => ⟨[(0, psV l), (3, .p 0 1 0 0), (6, psV l), (7, .i .i64 l.length), (8, .i .i64 k)], [.arr 1 2 [e.cs]]⟩)
    (fun k => l.length - k) 0 ⟨Nat.zero_le _, by simp⟩ ?_ ?_
  · simp [go_sem, psV, P2.cs]
  · rintro k ⟨hk, hn⟩
    by_cases hkl : k = l.length
    · subst hkl
      rw [List.take_length] at hn
      simp [go_sem, psV, slices_Index_api_Edge_api_Edge.r, hn]
    · have hlt : k < l.length := by omega
      have hp : l[k]? = some l[k] := List.getElem?_eq_getElem hlt
      have htk := take_succ_get hp
      have hx := idx_at (e := e) hp hn
      generalize l[k] = t at hp htk hx
      obtain ⟨_, hp'⟩ := List.getElem?_eq_some_iff.1 hp
      simp [go_sem, psV, hlt, hp, hp', pcs]
      refine ⟨fun h1 h2 => ?_, fun h => ?_⟩
      · have het : e = t := p2_ext h1 h2
        have := hx het
        simp [go_sem, slices_Index_api_Edge_api_Edge.r, this]
      · have het : ¬ e = t := fun hh => h (by rw [hh]) (by rw [hh])
        simp (disch := omega) [go_sem, psV, wrap64_small]
        exact ⟨k + 1, ⟨by omega, by rw [htk]; simp [hn, het]⟩, by omega, by omega⟩

theorem slices_ContainsE_ok {f fi : FuncId} (hf : FnOk P f (slices_Contains_api_Edge_api_Edge.c fi) slices_Contains_api_Edge_api_Edge.r slices_Contains_api_Edge_api_Edge.n) (hi : IdxEC P fi) : HasEC P f := by
  intro l e hl
  refine PureC.is (pure_of hm hf (Nat.le_of_ble_eq_true rfl) ?_) rfl
  unfold slices_Contains_api_Edge_api_Edge.c
  have h1 := hi l e hl
  simp [go_sem, psV, P2.enc, P2.cs] at h1 ⊢
  refine ACall_is h1 ?_
  by_cases h : e ∈ l
  · simp [go_sem, h, slices_Contains_api_Edge_api_Edge.r]
  · simp [go_sem, h, slices_Contains_api_Edge_api_Edge.r]

set_option maxHeartbeats 4000000 in
theorem orient_visit_ok {f fe fh fr : FuncId} (hf : FnOk P f (orient_Orient_1.c fe fh fr) orient_Orient_1.r orient_Orient_1.n) (he : EdgesC P fe) (hh : HasEC P fh) (hr : RevTC P fr) : VisitC P f := by
  intro H n a sa b tb c d q hb s l k e hus hk hn hfl hoff hQ
  refine call_keep hm hf (Nat.le_of_ble_eq_true rfl) ?_
  unfold orient_Orient_1.c
  have ga := hb.ga
  have gs := hb.gs
  have gb := hb.gb
  have gt := hb.gt
  have gc := hb.gc
  have gd := hb.gd
  have gq := hb.gq
  have ss := hb.ss
  have st := hb.st
  have sc := hb.sc
  have sd := hb.sd
  have sq := hb.sq
  obtain ⟨N, hN⟩ := hb.len
  have gx : ∀ s t u v w (o : O), (H s t u v w ++ (l ++ [o]))[N + l.length]? = some o := fun s t u v w o => by
    rw [← hN s t u v w, app_get_r, app_get_0]; rfl
  clear hb
  have hmg := mk_get (n := n) (d := s.X) (v := (k : Int)) (by omega) (by omega)
  have hms := mk_set (n := n) (d := s.X) (v := (k : Int)) (by omega)
  rw [Int.toNat_natCast] at hmg hms
  obtain ⟨hml, hmg'⟩ := List.getElem?_eq_some_iff.1 hmg
  have hlen : (edgesOf (tAt s.us k)).length ≤ 3 := edgesK_le _ 3
  have hp : s.us[k]? = some (tAt s.us k) := tAt_get (by omega)
  have hps : ∀ t : T3, (s.us.map T3.cs).set k t.cs = (s.us.set k t).map T3.cs := fun t => by rw [List.map_set]
  unfold oH OS.visit
  have hic : (ics s.Q).drop s.off = ics (s.Q.drop s.off) := by simp [ics]
  have hil : (ics s.Q).length = s.Q.length := by simp [ics]
  have htk : (ics (s.Q.drop s.off)).take (s.Q.length - s.off) = ics (s.Q.drop s.off) := List.take_of_length_le (by simp [ics])
  have hsn : ∀ Z : List Int, ics (Z ++ [(k : Int)]) = ics Z ++ [[.i .i64 (k : Int)]] := fun Z => by simp [ics]
  have hzl : ∀ Z : List Int, (Z ++ [(k : Int)]).length = Z.length + 1 := fun Z => by simp
  have hdl : (s.Q.drop s.off).length = s.Q.length - s.off := by simp
  obtain ⟨X, us, fl, g, off, Q⟩ := s
  simp only at *
  generalize hic2 : ics Q = C at *
  generalize hD : Q.drop off = D at *
  by_cases hX : (k : Int) ∈ X
  · rw [decide_eq_true hX] at hmg hmg'
    simp (disch := omega) [go_sem, P2.enc, P2.cs, hN, gx, ga, gs, hml, hmg, hmg', hX, orient_Orient_1.r]
    exact ⟨hk, by rw [hic2]⟩
  · rw [decide_eq_false hX] at hmg hmg'
    have he1 := he (tAt us k)
    have hh1 := hh (edgesOf (tAt us k)) e (by omega)
    have hr1 := hr (tAt us k)
    generalize tAt us k = t at *
    obtain ⟨hpl, hp'⟩ := List.getElem?_eq_some_iff.1 hp
    simp [go_sem, T3.enc, tcs, P2.enc, P2.cs] at he1 hh1 hr1
    simp (disch := omega) [go_sem, P2.enc, P2.cs, hN, gx, ga, gs, gb, gt, gc, gd, gq, ss, st, sc, sd, sq, hml, hmg, hmg', hms, hX, hpl, hp, hp', tcs]
    refine ⟨hk, ?_⟩
    refine DCall_is he1 ?_
    simp [go_sem, hN, gx, ga, gs, gb, gt, gc, gd, gq, ss, st, sc, sd, sq]
    refine DCall_is hh1 ?_
    by_cases hE : e ∈ edgesOf t
    · simp (disch := omega) [go_sem, hE, hN, gx, ga, gs, gb, gt, gc, gd, gq, ss, st, sc, sd, sq, hpl, hp, hp', tcs]
      refine ⟨hk, ?_⟩
      refine DCall_is hr1 ?_
      simp (disch := omega) [go_sem, hN, gx, ga, gs, gb, gt, gc, gd, gq, ss, st, sc, sd, sq, hpl, hp, hp', tcs, hic, hil, htk, hsn, hzl, hdl, wrap64_small, orient_Orient_1.r]
      exact ⟨hk, by omega, by omega⟩
    · simp (disch := omega) [go_sem, hE, hN, gx, ga, gs, gb, gt, gc, gd, gq, ss, st, sc, sd, sq, hpl, hp, hp', tcs, hic, hil, htk, hsn, hzl, hdl, wrap64_small, orient_Orient_1.r]
      exact ⟨by omega, by omega⟩
end
end Go.Abs
