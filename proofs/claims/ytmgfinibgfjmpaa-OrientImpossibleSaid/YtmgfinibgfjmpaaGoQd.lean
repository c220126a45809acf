/- Part of the library on which the proof stands: an abstract machine, its values and its soundness against the model; or what functions of the program do to such values. -/
import Derived.Test.YtmgfinibgfjmpaaGoOw
import Derived.Test.YtmgfinibgfjmpaaGoOriA
import Derived.Test.YtmgfinibgfjmpaaGoClone
import Derived.Test.YtmgfinibgfjmpaaGoLpB
set_option linter.unusedVariables false
set_option linter.unusedSimpArgs false
namespace Go.Abs

theorem und_two {a b : P2} (h : a.und = b.und) : a = b ∨ a = b.rev := by
  cases a; cases b
  simp only [P2.und, P2.rev, P2.mk.injEq] at h ⊢
  omega
theorem edgesOf_nodup (t : T3) : (edgesOf t).Nodup := by
  have h0 : edgesOf t = (edges3 t).filter fun e => decide (e.x ≠ e.y) := rfl
  rw [h0, List.nodup_iff_pairwise_ne, List.pairwise_filter]
  unfold edges3
  simp only [List.pairwise_cons, List.mem_cons, List.not_mem_nil, or_false, decide_eq_true_eq, ne_eq, false_implies, implies_true, List.Pairwise.nil, and_true, P2.mk.injEq]
  refine ⟨fun x hx h1 h2 => ?_, fun x hx h1 h2 => ?_⟩
  · rcases hx with rfl | rfl
    · simp only [P2.mk.injEq]; simp only at h1 h2; omega
    · simp only [P2.mk.injEq]; simp only at h1 h2; omega
  · subst hx
    simp only [P2.mk.injEq]; simp only at h1 h2; omega
/-- No two triangles use the same directed edge. -/
def Coh (ts : List T3) : Prop := ∀ (i j : Nat) (e : P2), i < ts.length → j < ts.length → e ∈ edgesOf (tAt ts i) → e ∈ edgesOf (tAt ts j) → i = j
theorem tAt_el {ts : List T3} {i : Nat} (h : i < ts.length) : ts[i] = tAt ts i := by
  have := tAt_get h
  rw [List.getElem?_eq_getElem h] at this
  exact Option.some.inj this
theorem coh_iff {ts : List T3} : (alluses ts).Nodup ↔ Coh ts := by
  have h0 : (alluses ts).Nodup ↔ (∀ t ∈ ts, (edgesOf t).Nodup) ∧ ts.Pairwise fun s t => ∀ x ∈ edgesOf s, ∀ y ∈ edgesOf t, x ≠ y := List.pairwise_flatMap
  rw [h0, List.pairwise_iff_getElem]
  constructor
  · rintro ⟨_, h⟩ i j e hi hj h1 h2
    rcases Nat.lt_trichotomy i j with hh | hh | hh
    · exact absurd rfl (h i j hi hj hh e (by rw [tAt_el hi]; exact h1) e (by rw [tAt_el hj]; exact h2))
    · exact hh
    · exact absurd rfl (h j i hj hi hh e (by rw [tAt_el hj]; exact h2) e (by rw [tAt_el hi]; exact h1))
  · intro h
    refine ⟨fun t _ => edgesOf_nodup t, fun i j hi hj hij x hx y hy => ?_⟩
    rintro rfl
    rw [tAt_el hi] at hx
    rw [tAt_el hj] at hy
    have := h i j x hi hj hx hy
    omega
theorem cohB_iff {ts : List T3} : cohB ts = true ↔ Coh ts := by unfold cohB; rw [decide_eq_true_eq]; exact coh_iff
theorem Fl.tat {ts us : List T3} (h : Fl ts us) {i : Nat} (hi : i < ts.length) : tAt us i = tAt ts i ∨ tAt us i = (tAt ts i).rev :=
  h.at_ i _ _ (tAt_get hi) (tAt_get (by rw [h.len]; exact hi))
theorem tAt_ext {us vs : List T3} (hl : us.length = vs.length) (h : ∀ i, i < us.length → tAt us i = tAt vs i) : us = vs := by
  apply List.ext_getElem?
  intro i
  by_cases hi : i < us.length
  · rw [tAt_get hi, tAt_get (by omega), h i hi]
  · rw [List.getElem?_eq_none (by omega), List.getElem?_eq_none (by omega)]
theorem adj_edge {ts : List T3} {i j : Nat} (h : adjI ts i j) : i < ts.length ∧ j < ts.length ∧ ∃ a ∈ edgesOf (tAt ts i), ∃ b ∈ edgesOf (tAt ts j), a.und = b.und := by
  have hl := h.lt
  obtain ⟨s, t, hs, ht, a, ha, b, hb, hab⟩ := h
  rw [tAt_get hl.1] at hs
  rw [tAt_get hl.2] at ht
  obtain rfl := Option.some.inj hs
  obtain rfl := Option.some.inj ht
  exact ⟨hl.1, hl.2, a, ha, b, hb, hab⟩
theorem adjI_of' {ts : List T3} {i j : Nat} (hi : i < ts.length) (hj : j < ts.length) {a b : P2} (ha : a ∈ edgesOf (tAt ts i)) (hb : b ∈ edgesOf (tAt ts j)) (h : a.und = b.und) : adjI ts i j :=
  ⟨_, _, tAt_get hi, tAt_get hj, a, ha, b, hb, h⟩
/-- A coherent orientation that keeps the first triangle of each shell. -/
structure Good (ts us : List T3) (L : List Int) : Prop where
  fl : Fl ts us
  coh : Coh us
  first : ∀ i : Nat, i < ts.length → L[i]? = some (i : Int) → tAt us i = tAt ts i
theorem Good.step {ts us vs : List T3} {L : List Int} (h : Good ts us L) (k : Good ts vs L) {i j : Nat} (ha : adjI ts i j) (he : tAt us i = tAt vs i) : tAt us j = tAt vs j := by
  obtain ⟨hi, hj, a, haa, b, hbb, hab⟩ := adj_edge (h.fl.adj ha)
  rw [h.fl.len] at hi hj
  by_cases hij : i = j
  · subst hij; exact he
  refine Decidable.byContradiction fun hne => ?_
  have hrev : tAt vs j = (tAt us j).rev := by
    rcases h.fl.tat hj with h1 | h1 <;> rcases k.fl.tat hj with h2 | h2
    · exact absurd (h1.trans h2.symm) hne
    · rw [h1, h2]
    · rw [h1, h2]; rfl
    · exact absurd (h1.trans h2.symm) hne
  rcases und_two hab with rfl | hab
  · exact hij (h.coh i j a (by rw [h.fl.len]; exact hi) (by rw [h.fl.len]; exact hj) haa hbb)
  · refine hij (k.coh i j a (by rw [k.fl.len]; exact hi) (by rw [k.fl.len]; exact hj) (by rw [← he]; exact haa) ?_)
    rw [hrev, mem_edges_rev, hab, rev_rev]
    exact hbb
theorem Good.eq {ts us vs : List T3} {L : List Int} (hL : IsLab ts L) (h : Good ts us L) (k : Good ts vs L) : us = vs := by
  refine tAt_ext (by rw [h.fl.len, k.fl.len]) fun j hj => ?_
  rw [h.fl.len] at hj
  have hv : L[j]? = some (L[j]'(by rw [hL.len]; exact hj)) := List.getElem?_eq_getElem _
  generalize L[j]'(by rw [hL.len]; exact hj) = v at hv
  obtain ⟨v0, v1, hc⟩ := hL.con j v hv
  have hvv := hL.conn hc
  rw [hv] at hvv
  have hc' := hc.symm
  have hvl := hc'.lt.1
  have hLv : L[v.toNat]? = some (v.toNat : Int) := by rw [← hvv]; congr 1; omega
  have h0 : tAt us v.toNat = tAt vs v.toNat := by rw [h.first _ hvl hLv, k.first _ hvl hLv]
  clear hv hvv hc hj v1
  induction hc' with
  | refl _ => exact h0
  | tail _ h2 ih => exact h.step k h2 ih
open Classical in
noncomputable def orientL (ts : List T3) : Option (List T3) := if h : ∃ us, Good ts us (labOf ts) then some (Classical.choose h) else none
theorem orientL_some {ts us : List T3} {L : List Int} (hL : IsLab ts L) (h : Good ts us L) : orientL ts = some us := by
  unfold orientL
  rw [labOf_eq hL]
  have hex : ∃ us, Good ts us L := ⟨us, h⟩
  rw [dif_pos hex]
  congr 1
  exact (Classical.choose_spec hex).eq hL h
theorem orientL_none {ts : List T3} {L : List Int} (hL : IsLab ts L) (h : ∀ us, ¬ Good ts us L) : orientL ts = none := by
  unfold orientL
  rw [labOf_eq hL, dif_neg]
  rintro ⟨us, hu⟩
  exact h us hu
theorem orientL_good {ts us : List T3} {L : List Int} (hL : IsLab ts L) (h : orientL ts = some us) : Good ts us L := by
  unfold orientL at h
  rw [labOf_eq hL] at h
  split at h
  · rename_i hex
    obtain rfl := Option.some.inj h
    exact Classical.choose_spec hex
  · simp at h
/-- How many triangles differ. -/
def difN (ts us : List T3) : Nat := ((List.range ts.length).filter fun i => decide (tAt us i ≠ tAt ts i)).length
noncomputable def oriR (m : Mesh) : Mesh × Int × Int :=
  if m.check ≠ 0 then (⟨[], []⟩, 0, m.check) else match orientL m.tris with
  | none => (⟨[], []⟩, 0, 13)
  | some us => (⟨m.verts, us⟩, difN m.tris us, 0)
def OrientC (P : Program) (f : FuncId) : Prop := ∀ m : Mesh, CallIs P f [m.enc] (mieV (oriR m))

theorem tAt_set {us : List T3} {j : Nat} (hj : j < us.length) (i : Nat) (t : T3) : tAt (us.set j t) i = if i = j then t else tAt us i := by
  unfold tAt
  by_cases h : i = j
  · subst h; rw [List.getElem?_set_self hj, if_pos rfl]; rfl
  · rw [List.getElem?_set_ne (fun hh => h hh.symm), if_neg h]
theorem Fl.set {ts us : List T3} (h : Fl ts us) {j : Nat} (hj : j < ts.length) : Fl ts (us.set j (tAt us j).rev) where
  len := by rw [List.length_set, h.len]
  at_ i t u h1 h2 := by
    have hi := (List.getElem?_eq_some_iff.1 h1).1
    have hju : j < us.length := by rw [h.len]; exact hj
    rw [tAt_get (by rw [List.length_set, h.len]; exact hi)] at h2
    rw [tAt_get hi] at h1
    obtain rfl := Option.some.inj h1
    obtain rfl := Option.some.inj h2
    rw [tAt_set hju]
    split
    · rename_i hh; subst hh
      rcases h.tat hj with h3 | h3
      · exact .inr (by rw [h3])
      · exact .inl (by rw [h3]; rfl)
    · exact h.tat hi
theorem Fl.refl (ts : List T3) : Fl ts ts := ⟨rfl, fun i t u h1 h2 => .inl (by rw [h1] at h2; exact (Option.some.inj h2).symm)⟩
theorem difN_self (ts : List T3) : difN ts ts = 0 := by unfold difN; simp
theorem filter_one {n j : Nat} (hj : j < n) {p q : Nat → Bool} (hq : ∀ i, i < n → q i = (if i = j then true else p i)) (hp : p j = false) : ((List.range n).filter q).length = ((List.range n).filter p).length + 1 := by
  induction n with
  | zero => omega
  | succ n ih =>
    rw [List.range_succ, List.filter_append, List.filter_append, List.length_append, List.length_append]
    by_cases h : j = n
    · subst h
      have h1 : (List.range j).filter q = (List.range j).filter p := by
        refine List.filter_congr fun i hi => ?_
        have := List.mem_range.1 hi
        rw [hq i (by omega), if_neg (by omega)]
      rw [h1]
      have h2 := hq j (by omega)
      rw [if_pos rfl] at h2
      simp [h2, hp]
    · have h1 := ih (by omega) fun i hi => hq i (by omega)
      have h2 := hq n (by omega)
      rw [if_neg (fun hh => h hh.symm)] at h2
      rw [h1]
      by_cases h3 : p n = true <;> simp [h2, h3] <;> omega
theorem difN_set {ts us : List T3} (hl : us.length = ts.length) {j : Nat} (hj : j < ts.length) (he : tAt us j = tAt ts j) {t : T3} (hne : t ≠ tAt ts j) : difN ts (us.set j t) = difN ts us + 1 := by
  unfold difN
  refine filter_one hj (fun i hi => ?_) (by simp [he])
  rw [tAt_set (by rw [hl]; exact hj)]
  by_cases h : i = j
  · subst h; simp [hne]
  · simp [h]
/-- What is known while the triangles X have been seen. -/
structure OrI (ts us : List T3) (L X : List Int) (n : Nat) : Prop where
  fl : Fl ts us
  new : ∀ i : Nat, i < ts.length → (i : Int) ∉ X → tAt us i = tAt ts i
  first : ∀ i : Nat, i < ts.length → L[i]? = some (i : Int) → tAt us i = tAt ts i
  num : n ≤ X.length
  good : ∀ vs, Good ts vs L → (∀ i : Nat, i < ts.length → (i : Int) ∈ X → tAt us i = tAt vs i) ∧ n = difN ts us
theorem OrI.start (ts : List T3) (L : List Int) : OrI ts ts L [] 0 :=
  ⟨Fl.refl ts, fun _ _ _ => rfl, fun _ _ _ => rfl, Nat.zero_le _, fun vs h => ⟨by simp, by rw [difN_self]⟩⟩
theorem mem_snoc {X : List Int} {k i : Int} : i ∈ X ++ [k] ↔ i ∈ X ∨ i = k := by simp
theorem OrI.top {ts us : List T3} {L X : List Int} {n : Nat} (h : OrI ts us L X n) {k : Nat} (hk : k < ts.length) (hx : (k : Int) ∉ X) (hL : L[k]? = some (k : Int)) : OrI ts us L (X ++ [(k : Int)]) n where
  fl := h.fl
  new i hi hn := h.new i hi fun hh => hn (mem_snoc.2 (.inl hh))
  first := h.first
  num := by have := h.num; simp; omega
  good vs hv := by
    obtain ⟨h1, h2⟩ := h.good vs hv
    refine ⟨fun i hi hm => ?_, h2⟩
    rcases mem_snoc.1 hm with hm | hm
    · exact h1 i hi hm
    · obtain rfl : i = k := by omega
      rw [h.first i hi hL, hv.first i hi hL]
theorem OrI.keep {ts us : List T3} {L X : List Int} {n : Nat} (h : OrI ts us L X n) {i k : Nat} (hi : i < ts.length) (hk : k < ts.length) (hix : (i : Int) ∈ X) (hx : (k : Int) ∉ X) {e : P2} (he : e ∈ edgesOf (tAt us i)) (hno : e ∉ edgesOf (tAt us k))
    {b : P2} (hb : b ∈ edgesOf (tAt ts k)) (hbe : b.und = e.und) : OrI ts us L (X ++ [(k : Int)]) n where
  fl := h.fl
  new i hi hn := h.new i hi fun hh => hn (mem_snoc.2 (.inl hh))
  first := h.first
  num := by have := h.num; simp; omega
  good vs hv := by
    obtain ⟨h1, h2⟩ := h.good vs hv
    refine ⟨fun j hj hm => ?_, h2⟩
    rcases mem_snoc.1 hm with hm | hm
    · exact h1 j hj hm
    · obtain rfl : j = k := by omega
      have huk := h.new j hj hx
      rw [huk] at hno ⊢
      rcases hv.fl.tat hj with h3 | h3
      · exact h3.symm
      · exfalso
        rcases und_two hbe with rfl | rfl
        · exact hno hb
        · have hij := hv.coh i j e (by rw [hv.fl.len]; exact hi) (by rw [hv.fl.len]; exact hj) (by rw [← h1 i hi hix]; exact he) (by rw [h3, mem_edges_rev]; exact hb)
          subst hij
          exact hx hix
theorem OrI.turn {ts us : List T3} {L X : List Int} {n : Nat} (h : OrI ts us L X n) {i k : Nat} (hi : i < ts.length) (hk : k < ts.length) (hix : (i : Int) ∈ X) (hx : (k : Int) ∉ X) (hL : L[k]? ≠ some (k : Int)) {e : P2} (he : e ∈ edgesOf (tAt us i)) (hye : e ∈ edgesOf (tAt us k)) :
    OrI ts (us.set k (tAt us k).rev) L (X ++ [(k : Int)]) (n + 1) where
  fl := h.fl.set hk
  new j hj hn := by
    rw [tAt_set (by rw [h.fl.len]; exact hk), if_neg (fun hh => hn (mem_snoc.2 (.inr (by omega))))]
    exact h.new j hj fun hh => hn (mem_snoc.2 (.inl hh))
  first j hj hLj := by
    rw [tAt_set (by rw [h.fl.len]; exact hk), if_neg (by rintro rfl; exact hL hLj)]
    exact h.first j hj hLj
  num := by have := h.num; simp; omega
  good vs hv := by
    obtain ⟨h1, h2⟩ := h.good vs hv
    have huk := h.new k hk hx
    have hvk : tAt vs k = (tAt us k).rev := by
      rw [huk] at hye ⊢
      rcases hv.fl.tat hk with h3 | h3
      · exfalso
        have hij := hv.coh i k e (by rw [hv.fl.len]; exact hi) (by rw [hv.fl.len]; exact hk) (by rw [← h1 i hi hix]; exact he) (by rw [h3]; exact hye)
        subst hij
        exact hx hix
      · exact h3
    refine ⟨fun j hj hm => ?_, ?_⟩
    · rw [tAt_set (by rw [h.fl.len]; exact hk)]
      split
      · rename_i hh; subst hh; exact hvk.symm
      · rename_i hh
        rcases mem_snoc.1 hm with hm | hm
        · exact h1 j hj hm
        · omega
    · rw [difN_set h.fl.len hk huk, h2]
      intro hh
      have hij := hv.coh i k e (by rw [hv.fl.len]; exact hi) (by rw [hv.fl.len]; exact hk) (by rw [← h1 i hi hix]; exact he) (by rw [hvk, hh, ← huk]; exact hye)
      subst hij
      exact hx hix
/-- What comes out when all have been seen. -/
theorem OrI.done {ts us : List T3} {L X : List Int} {n : Nat} (hL : IsLab ts L) (h : OrI ts us L X n) (hall : ∀ i : Nat, i < ts.length → (i : Int) ∈ X) :
    (Coh us → orientL ts = some us ∧ n = difN ts us) ∧ (¬ Coh us → orientL ts = none) := by
  constructor
  · intro hc
    have hg : Good ts us L := ⟨h.fl, hc, h.first⟩
    exact ⟨orientL_some hL hg, (h.good us hg).2⟩
  · intro hc
    refine orientL_none hL fun vs hv => hc ?_
    obtain ⟨h1, _⟩ := h.good vs hv
    have : us = vs := tAt_ext (by rw [h.fl.len, hv.fl.len]) fun i hi => by
      rw [h.fl.len] at hi
      exact h1 i hi (hall i hi)
    rw [this]
    exact hv.coh
end Go.Abs
set_option linter.unusedVariables false
set_option linter.unusedSimpArgs false
namespace Go.Abs

def law11_OrientImpossible.c (law11_Small mesh_Check law11_awake orient_Orient topo_Uses : FuncId) : C :=
 (.seq
  (.reg [
    ⟨(some 1), none, .box (.t 0)⟩,
    ⟨(some 2), none, .mv (.c (.b false))⟩])
  (.seq
   (.seq
    (.reg [
      ⟨(some 9), none, .ld (some 2) (.t 1)⟩,
      ⟨(some 10), none, .call law11_Small [(.t 9)]⟩,
      ⟨(some 11), none, .un .not (.t 10)⟩,
      ⟨(some 12), none, .mv (.t 11)⟩,
      ⟨(some 13), (some (12, false)), .ld (some 2) (.t 1)⟩,
      ⟨(some 14), (some (12, false)), .call mesh_Check [(.t 13)]⟩,
      ⟨(some 15), (some (12, false)), .bin .neq (.t 14) (.c (.i .i64 0))⟩,
      ⟨(some 16), none, .pick (.t 12) (.c (.b true)) (.t 15)⟩])
    (.ite (.t 16)
     (.seq
      (.reg [
        ⟨(some 17), none, .call law11_awake []⟩,
        ⟨(some 2), none, .mv (.t 17)⟩])
      .ret)
     .skip))
   (.seq
    (.reg [
      ⟨(some 19), none, .ld (some 2) (.t 1)⟩,
      ⟨(some 20), none, .call orient_Orient [(.t 19)]⟩,
      ⟨(some 18), none, .mv (.t 20)⟩,
      ⟨(some 21), none, .ext (.t 18) 0⟩,
      ⟨(some 22), none, .ext (.t 18) 1⟩,
      ⟨(some 23), none, .ext (.t 18) 2⟩,
      ⟨(some 3), none, .alloc [.nil, .nil]⟩,
      ⟨none, none, .st 2 (.t 3) (.t 21)⟩,
      ⟨(some 4), none, .mv (.t 22)⟩,
      ⟨(some 5), none, .mv (.t 23)⟩])
    (.seq
     (.seq
      (.reg [
        ⟨(some 6), none, .mv (.c (.i .i64 0))⟩])
      (.blk 0
       (.loop
        (.seq
         (.seq
          (.reg [
            ⟨(some 24), none, .mv (.t 6)⟩,
            ⟨(some 25), none, .fa 1 (.t 1)⟩,
            ⟨(some 26), none, .ld none (.t 25)⟩,
            ⟨(some 27), none, .len 0 (.t 26)⟩,
            ⟨(some 28), none, .bin .lss (.t 24) (.t 27)⟩])
          (.ite (.t 28)
           .skip
           (.exit 0)))
         (.seq
          (.blk 1
           (.seq
            (.drw [
              ⟨(some 32), none, .ld (some 2) (.t 1)⟩,
              ⟨(some 33), none, .fa 1 (.t 1)⟩,
              ⟨(some 34), none, .ld none (.t 33)⟩,
              ⟨(some 35), none, .mv (.t 6)⟩,
              ⟨(some 36), none, .ia 3 (.t 34) (.t 35)⟩,
              ⟨(some 37), none, .fa 0 (.t 36)⟩,
              ⟨(some 38), none, .ld none (.t 37)⟩,
              ⟨(some 39), none, .fa 1 (.t 1)⟩,
              ⟨(some 40), none, .ld none (.t 39)⟩,
              ⟨(some 41), none, .mv (.t 6)⟩,
              ⟨(some 42), none, .ia 3 (.t 40) (.t 41)⟩,
              ⟨(some 43), none, .fa 1 (.t 42)⟩,
              ⟨(some 44), none, .ld none (.t 43)⟩,
              ⟨(some 45), none, .build [(.i .i64 0), (.i .i64 0)] [(0, 1, (.t 38)), (1, 1, (.t 44))]⟩,
              ⟨(some 46), none, .call topo_Uses [(.t 32), (.t 45)]⟩,
              ⟨(some 31), none, .mv (.t 46)⟩,
              ⟨(some 47), none, .ext (.t 31) 0⟩,
              ⟨(some 48), none, .ext (.t 31) 1⟩,
              ⟨(some 7), none, .mv (.t 47)⟩,
              ⟨(some 8), none, .mv (.t 48)⟩] [])
            (.seq
             (.drw [
               ⟨(some 49), none, .fa 1 (.t 1)⟩,
               ⟨(some 50), none, .ld none (.t 49)⟩,
               ⟨(some 51), none, .mv (.t 6)⟩,
               ⟨(some 52), none, .ia 3 (.t 50) (.t 51)⟩,
               ⟨(some 53), none, .fa 0 (.t 52)⟩,
               ⟨(some 54), none, .ld none (.t 53)⟩,
               ⟨(some 55), none, .fa 1 (.t 1)⟩,
               ⟨(some 56), none, .ld none (.t 55)⟩,
               ⟨(some 57), none, .mv (.t 6)⟩,
               ⟨(some 58), none, .ia 3 (.t 56) (.t 57)⟩,
               ⟨(some 59), none, .fa 1 (.t 58)⟩,
               ⟨(some 60), none, .ld none (.t 59)⟩,
               ⟨(some 61), none, .bin .neq (.t 54) (.t 60)⟩,
               ⟨(some 62), none, .mv (.t 61)⟩,
               ⟨(some 63), (some (62, true)), .mv (.t 7)⟩,
               ⟨(some 64), (some (62, true)), .mv (.t 8)⟩,
               ⟨(some 65), (some (62, true)), .bin .add (.t 63) (.t 64)⟩,
               ⟨(some 66), (some (62, true)), .bin .gtr (.t 65) (.c (.i .i64 2))⟩,
               ⟨(some 67), none, .pick (.t 62) (.t 66) (.c (.b false))⟩,
               ⟨(some 68), none, .mv (.t 67)⟩,
               ⟨(some 69), (some (68, true)), .mv (.t 5)⟩,
               ⟨(some 70), (some (68, true)), .bin .neq (.t 69) (.c (.i .i64 13))⟩,
               ⟨(some 71), none, .pick (.t 68) (.t 70) (.c (.b false))⟩] [])
             (.ite (.t 71)
              (.seq
               (.reg [
                 ⟨(some 2), none, .mv (.c (.b false))⟩])
               .ret)
              .skip))))
          (.reg [
            ⟨(some 29), none, .mv (.t 6)⟩,
            ⟨(some 30), none, .bin .add (.t 29) (.c (.i .i64 1))⟩,
            ⟨(some 6), none, .mv (.t 30)⟩]))))))
     (.seq
      (.reg [
        ⟨(some 72), none, .call law11_awake []⟩,
        ⟨(some 2), none, .mv (.t 72)⟩])
      .ret)))))
def law11_OrientImpossible.r : List Rr := [.tmp 2]
abbrev law11_OrientImpossible.n : Nat := 73
end Go.Abs
set_option linter.unusedVariables false
set_option linter.unusedSimpArgs false
namespace Go.Abs

def RevTC (P : Program) (f : FuncId) : Prop := ∀ t : T3, CallIs P f [t.enc] t.rev.enc

section
variable {P : Program} (hm : P.follows .mixedOrders = true)
include hm

theorem orient_reversed_ok {f : FuncId} (hf : FnOk P f orient_reversed.c orient_reversed.r orient_reversed.n) : RevTC P f := by
  intro t
  refine PureC.is (pure_of hm hf (Nat.le_of_ble_eq_true rfl) ?_) rfl
  unfold orient_reversed.c
  simp [go_sem, T3.enc, T3.cs, T3.rev, orient_reversed.r]
end
end Go.Abs
set_option linter.unusedVariables false
set_option linter.unusedSimpArgs false
namespace Go.Abs

theorem p2_ext {x y : P2} (h1 : x.x = y.x) (h2 : x.y = y.y) : x = y := by cases x; cases y; simp_all

section
variable {P : Program} (hm : P.follows .mixedOrders = true)
include hm

end
end Go.Abs
set_option linter.unusedVariables false
set_option linter.unusedSimpArgs false
namespace Go.Abs

def HasEC (P : Program) (f : FuncId) : Prop := ∀ (l : List P2) (e : P2), l.length ≤ 1000 → CallIs P f [psV l, e.enc] (.b (decide (e ∈ l)))
def IdxEC (P : Program) (f : FuncId) : Prop := ∀ (l : List P2) (e : P2), l.length ≤ 1000 → CallIs P f [psV l, e.enc] (.i .i64 (if e ∈ l then (l.idxOf e : Int) else -1))

/-- A heap in which five objects are turned. -/
structure HB (H : O → O → O → O → O → List O) (n a sa b tb c d q : Nat) : Prop where
  len : ∃ N, ∀ s t u v w, (H s t u v w).length = N
  ga : ∀ s t u v w l, (H s t u v w ++ l)[a]? = some (.arr 1 1 [[.own sa 1 0 n]])
  gs : ∀ s t u v w l, (H s t u v w ++ l)[sa]? = some s
  gb : ∀ s t u v w l, (H s t u v w ++ l)[b]? = some (.arr 1 1 [[.own tb 1 0 n]])
  gt : ∀ s t u v w l, (H s t u v w ++ l)[tb]? = some t
  gc : ∀ s t u v w l, (H s t u v w ++ l)[c]? = some u
  gd : ∀ s t u v w l, (H s t u v w ++ l)[d]? = some v
  gq : ∀ s t u v w l, (H s t u v w ++ l)[q]? = some w
  ss : ∀ s t u v w l o, (H s t u v w ++ l).set sa o = H o t u v w ++ l
  st : ∀ s t u v w l o, (H s t u v w ++ l).set tb o = H s o u v w ++ l
  sc : ∀ s t u v w l o, (H s t u v w ++ l).set c o = H s t o v w ++ l
  sd : ∀ s t u v w l o, (H s t u v w ++ l).set d o = H s t u o w ++ l
  sq : ∀ s t u v w l o, (H s t u v w ++ l).set q o = H s t u v o ++ l
/-- The state of the walk. -/
structure OS where
  X : List Int
  us : List T3
  fl : Nat
  g : Nat
  off : Nat
  Q : List Int
def oH (H : O → O → O → O → O → List O) (n q : Nat) (s : OS) : List O :=
  H (.arr 1 1 (mk n s.X)) (.arr 1 3 (s.us.map T3.cs)) (.arr 1 1 [[.i .i64 s.fl]]) (.arr 1 1 [[.own q s.g s.off (s.Q.length - s.off)]]) (.arr s.g 1 (ics s.Q))
/-- What a visit makes of it. -/
def OS.visit (s : OS) (k : Nat) (e : P2) : OS :=
  if (k : Int) ∈ s.X then s
  else if e ∈ edgesOf (tAt s.us k) then ⟨s.X ++ [(k : Int)], s.us.set k (tAt s.us k).rev, s.fl + 1, s.g + 1, 0, s.Q.drop s.off ++ [(k : Int)]⟩
  else ⟨s.X ++ [(k : Int)], s.us, s.fl, s.g + 1, 0, s.Q.drop s.off ++ [(k : Int)]⟩
def VisitC (P : Program) (f : FuncId) : Prop := ∀ (H : O → O → O → O → O → List O) (n a sa b tb c d q : Nat), HB H n a sa b tb c d q → ∀ (s : OS) (l : List O) (k : Nat) (e : P2), s.us.length = n → k < n → n ≤ 4096 → s.fl ≤ 4096 → s.off ≤ s.Q.length → s.Q.length - s.off ≤ 8192 →
  ACall P f [.i .i64 k, e.enc, .p a 1 0 0, .p b 1 0 0, .p c 1 0 0, .p d 1 0 0] (oH H n q s ++ l) (fun r h' => r = .t [] ∧ h' = oH H n q (s.visit k e) ++ (l ++ [.arr 1 2 [e.cs]]))

theorem idx_at {l : List P2} {e x : P2} {k : Nat} (hp : l[k]? = some x) (hn : e ∉ l.take k) (h : e = x) : e ∈ l ∧ l.idxOf e = k := by
  subst h
  have hlt := (List.getElem?_eq_some_iff.1 hp).1
  refine ⟨List.mem_of_getElem? hp, ?_⟩
  have h1 := List.take_append_drop k l
  rw [List.drop_eq_getElem_cons hlt, (List.getElem?_eq_some_iff.1 hp).2] at h1
  have h2 : (l.take k ++ e :: l.drop (k + 1)).idxOf e = k := by
    rw [List.idxOf_append, if_neg hn, List.idxOf_cons_self]; simp; omega
  rw [h1] at h2
  exact h2

section
variable {P : Program} (hm : P.follows .mixedOrders = true)
include hm

theorem orient_both_ok {f : FuncId} (hf : FnOk P f orient_both.c orient_both.r orient_both.n) : UndC P f := topo_undirected_ok hm hf

set_option maxHeartbeats 4000000 in
theorem slices_IndexE_ok {f : FuncId} (hf : FnOk P f slices_Index_api_Edge_api_Edge.c slices_Index_api_Edge_api_Edge.r slices_Index_api_Edge_api_Edge.n) : IdxEC P f := by
  intro l e hl
  refine PureC.is (pure_of hm hf (Nat.le_of_ble_eq_true rfl) ?_) rfl
  unfold slices_Index_api_Edge_api_Edge.c
  simp [go_sem, psV, P2.enc, P2.cs]
  refine AS_loop (α := Nat) (fun k => k ≤ l.length ∧ e ∉ l.take k)
    (fun k => ⟨[(0, psV l), (3, .p 0 1 0 0), (6, psV l), (7, .i .i64 l.length), (8, .i .i64 k)], [.arr 1 2 [e.cs]]⟩)
    (fun k => l.length - k) 0 ⟨Nat.zero_le _, by simp⟩ ?_ ?_
  · simp [go_sem, psV, P2.cs]
  · rintro k ⟨hk, hn⟩
    by_cases hkl : k = l.length
    · subst hkl
      rw [List.take_length] at hn
      simp [go_sem, psV, slices_Index_api_Edge_api_Edge.r, hn]
    · have hlt : k < l.length := by omega
      have hp : l[k]? = some l[k] := List.getElem?_eq_getElem hlt
      have htk := take_succ_get hp
      have hx := idx_at (e := e) hp hn
      generalize l[k] = t at hp htk hx
      obtain ⟨_, hp'⟩ := List.getElem?_eq_some_iff.1 hp
      simp [go_sem, psV, hlt, hp, hp', pcs]
      refine ⟨fun h1 h2 => ?_, fun h => ?_⟩
      · have het : e = t := p2_ext h1 h2
        have := hx het
        simp [go_sem, slices_Index_api_Edge_api_Edge.r, this]
      · have het : ¬ e = t := fun hh => h (by rw [hh]) (by rw [hh])
        simp (disch := omega) [go_sem, psV, wrap64_small]
        exact ⟨k + 1, ⟨by omega, by rw [htk]; simp [hn, het]⟩, by omega, by omega⟩

theorem slices_ContainsE_ok {f fi : FuncId} (hf : FnOk P f (slices_Contains_api_Edge_api_Edge.c fi) slices_Contains_api_Edge_api_Edge.r slices_Contains_api_Edge_api_Edge.n) (hi : IdxEC P fi) : HasEC P f := by
  intro l e hl
  refine PureC.is (pure_of hm hf (Nat.le_of_ble_eq_true rfl) ?_) rfl
  unfold slices_Contains_api_Edge_api_Edge.c
  have h1 := hi l e hl
  simp [go_sem, psV, P2.enc, P2.cs] at h1 ⊢
  refine ACall_is h1 ?_
  by_cases h : e ∈ l
  · simp [go_sem, h, slices_Contains_api_Edge_api_Edge.r]
  · simp [go_sem, h, slices_Contains_api_Edge_api_Edge.r]

set_option maxHeartbeats 4000000 in
theorem orient_visit_ok {f fe fh fr : FuncId} (hf : FnOk P f (orient_Orient_1.c fe fh fr) orient_Orient_1.r orient_Orient_1.n) (he : EdgesC P fe) (hh : HasEC P fh) (hr : RevTC P fr) : VisitC P f := by
  intro H n a sa b tb c d q hb s l k e hus hk hn hfl hoff hQ
  refine call_keep hm hf (Nat.le_of_ble_eq_true rfl) ?_
  unfold orient_Orient_1.c
  have ga := hb.ga
  have gs := hb.gs
  have gb := hb.gb
  have gt := hb.gt
  have gc := hb.gc
  have gd := hb.gd
  have gq := hb.gq
  have ss := hb.ss
  have st := hb.st
  have sc := hb.sc
  have sd := hb.sd
  have sq := hb.sq
  obtain ⟨N, hN⟩ := hb.len
  have gx : ∀ s t u v w (o : O), (H s t u v w ++ (l ++ [o]))[N + l.length]? = some o := fun s t u v w o => by
    rw [← hN s t u v w, app_get_r, app_get_0]; rfl
  clear hb
  have hmg := mk_get (n := n) (d := s.X) (v := (k : Int)) (by omega) (by omega)
  have hms := mk_set (n := n) (d := s.X) (v := (k : Int)) (by omega)
  rw [Int.toNat_natCast] at hmg hms
  obtain ⟨hml, hmg'⟩ := List.getElem?_eq_some_iff.1 hmg
  have hlen : (edgesOf (tAt s.us k)).length ≤ 3 := edgesK_le _ 3
  have hp : s.us[k]? = some (tAt s.us k) := tAt_get (by omega)
  have hps : ∀ t : T3, (s.us.map T3.cs).set k t.cs = (s.us.set k t).map T3.cs := fun t => by rw [List.map_set]
  unfold oH OS.visit
  have hic : (ics s.Q).drop s.off = ics (s.Q.drop s.off) := by simp [ics]
  have hil : (ics s.Q).length = s.Q.length := by simp [ics]
  have htk : (ics (s.Q.drop s.off)).take (s.Q.length - s.off) = ics (s.Q.drop s.off) := List.take_of_length_le (by simp [ics])
  have hsn : ∀ Z : List Int, ics (Z ++ [(k : Int)]) = ics Z ++ [[.i .i64 (k : Int)]] := fun Z => by simp [ics]
  have hzl : ∀ Z : List Int, (Z ++ [(k : Int)]).length = Z.length + 1 := fun Z => by simp
  have hdl : (s.Q.drop s.off).length = s.Q.length - s.off := by simp
  obtain ⟨X, us, fl, g, off, Q⟩ := s
  simp only at *
  generalize hic2 : ics Q = C at *
  generalize hD : Q.drop off = D at *
  by_cases hX : (k : Int) ∈ X
  · rw [decide_eq_true hX] at hmg hmg'
    simp (disch := omega) [go_sem, P2.enc, P2.cs, hN, gx, ga, gs, hml, hmg, hmg', hX, orient_Orient_1.r]
    exact ⟨hk, by rw [hic2]⟩
  · rw [decide_eq_false hX] at hmg hmg'
    have he1 := he (tAt us k)
    have hh1 := hh (edgesOf (tAt us k)) e (by omega)
    have hr1 := hr (tAt us k)
    generalize tAt us k = t at *
    obtain ⟨hpl, hp'⟩ := List.getElem?_eq_some_iff.1 hp
    simp [go_sem, T3.enc, tcs, P2.enc, P2.cs] at he1 hh1 hr1
    simp (disch := omega) [go_sem, P2.enc, P2.cs, hN, gx, ga, gs, gb, gt, gc, gd, gq, ss, st, sc, sd, sq, hml, hmg, hmg', hms, hX, hpl, hp, hp', tcs]
    refine ⟨hk, ?_⟩
    refine DCall_is he1 ?_
    simp [go_sem, hN, gx, ga, gs, gb, gt, gc, gd, gq, ss, st, sc, sd, sq]
    refine DCall_is hh1 ?_
    by_cases hE : e ∈ edgesOf t
    · simp (disch := omega) [go_sem, hE, hN, gx, ga, gs, gb, gt, gc, gd, gq, ss, st, sc, sd, sq, hpl, hp, hp', tcs]
      refine ⟨hk, ?_⟩
      refine DCall_is hr1 ?_
      simp (disch := omega) [go_sem, hN, gx, ga, gs, gb, gt, gc, gd, gq, ss, st, sc, sd, sq, hpl, hp, hp', tcs, hic, hil, htk, hsn, hzl, hdl, wrap64_small, orient_Orient_1.r]
      exact ⟨hk, by omega, by omega⟩
    · simp (disch := omega) [go_sem, hE, hN, gx, ga, gs, gb, gt, gc, gd, gq, ss, st, sc, sd, sq, hpl, hp, hp', tcs, hic, hil, htk, hsn, hzl, hdl, wrap64_small, orient_Orient_1.r]
      exact ⟨by omega, by omega⟩
end
end Go.Abs
set_option linter.unusedVariables false
set_option linter.unusedSimpArgs false
namespace Go.Abs

def evN (b : Nat) (p : Nat × Nat) : V := .own (p.1 + b) p.2 0 p.2
theorem UM.clN {hx : List O} {KJ : List (P2 × (Nat × Nat))} {Q : List (P2 × Int)} (h : UM hx KJ Q) {N b : Nat} (hN : hx.length + b ≤ N) : ∀ e ∈ KJ.map (asG P2.enc (evN b)), e.1.cl N = true ∧ e.2.cl N = true := by
  intro x hx'
  obtain ⟨⟨k, j, n⟩, hm, rfl⟩ := List.mem_map.1 hx'
  obtain ⟨i, hi⟩ := List.getElem?_of_mem hm
  have := (List.getElem?_eq_some_iff.1 (h.val i k j n hi).2).1
  refine ⟨?_, ?_⟩
  · simp [asG, P2.enc, P2.cs, V.cl, V.cl1, V.cl0]
  · simp [asG, evN, V.cl, V.cl1, V.cl0]; omega
theorem UM.clN2 {hx : List O} {KJ : List (P2 × (Nat × Nat))} {Q : List (P2 × Int)} (h : UM hx KJ Q) {N b : Nat} (hN : hx.length + b ≤ N) : ∀ (x y : V) (k : P2) (j n : Nat), (k, j, n) ∈ KJ → asG P2.enc (evN b) (k, j, n) = (x, y) → x.cl N = true ∧ y.cl N = true := fun x y k j n hm he => by
  have := h.clN hN (asG P2.enc (evN b) (k, j, n)) (List.mem_map.2 ⟨_, hm, rfl⟩)
  rw [he] at this
  exact this
theorem BfI.next' {ts : List T3} {D S : List Int} {i k : Nat} {v : Int} {E : List P2} (h : BfI ts D S i k v E) (hE : ∀ a ∈ edgesOf (tAt ts v.toNat), ∃ b ∈ E, b.und = a.und) : BfK ts D S (k + 1) := fun k' w hk' hw j hj => by
  by_cases hkk : k' = k
  · subst hkk
    rw [h.at_] at hw
    obtain rfl := Option.some.inj hw
    obtain ⟨e, he, hm⟩ := (adj_us hj.lt.1).1 hj
    obtain ⟨b, hb, hbe⟩ := hE e he
    exact h.ed b hb _ (by rw [hbe]; exact hm)
  · exact h.bk k' w (by omega) hw j hj
/-- What is known of the walk's state. -/
structure Wk (ts : List T3) (L D S : List Int) (k : Nat) (s : OS) : Prop where
  x : s.X = D ++ S
  len : s.us.length = ts.length
  ori : OrI ts s.us L s.X s.fl
  q : s.Q.drop s.off = S.drop k
  off : s.off ≤ s.Q.length
theorem Wk.ql {ts : List T3} {L D S : List Int} {k : Nat} {s : OS} (w : Wk ts L D S k s) : s.Q.length - s.off = S.length - k := by
  have := congrArg List.length w.q
  simpa using this
theorem Wk.top {ts : List T3} {L D : List Int} {s : OS} (w : Wk ts L D [] 0 s) {i : Nat} (hi : i < ts.length) (hLi : L[i]? = some (i : Int)) (hn : (i : Int) ∉ D) : Wk ts L D [(i : Int)] 0 (s.visit i ⟨-1, -1⟩) := by
  have hx : s.X = D := by rw [w.x]; simp
  have hne : (⟨-1, -1⟩ : P2) ∉ edgesOf (tAt s.us i) := fun h => absurd rfl (edgesOf_ne h)
  unfold OS.visit
  rw [if_neg (by rw [hx]; exact hn), if_neg hne]
  have hq := w.q
  simp only [List.drop_nil] at hq
  refine ⟨by simp only [hx], w.len, w.ori.top hi (by rw [hx]; exact hn) hLi, by simp [hq], by simp⟩
theorem Wk.same {ts : List T3} {L D S : List Int} {k : Nat} {s : OS} (w : Wk ts L D S k s) {j : Nat} {e : P2} (h : (j : Int) ∈ D ++ S) : s.visit j e = s := by
  unfold OS.visit; rw [if_pos (by rw [w.x]; exact h)]
theorem Wk.pop {ts : List T3} {L D S : List Int} {k : Nat} {s : OS} (w : Wk ts L D S k s) {v : Int} (h : S[k]? = some v) : Wk ts L D S (k + 1) { s with off := s.off + 1 } ∧ s.Q[s.off]? = some v := by
  have hk := (List.getElem?_eq_some_iff.1 h).1
  have hql := w.ql
  refine ⟨⟨w.x, w.len, w.ori, ?_, by show s.off + 1 ≤ s.Q.length; omega⟩, ?_⟩
  · have := congrArg (List.drop 1) w.q
    rw [List.drop_drop, List.drop_drop] at this
    exact this
  · have : (s.Q.drop s.off)[0]? = (S.drop k)[0]? := by rw [w.q]
    rw [List.getElem?_drop, List.getElem?_drop] at this
    simp only [Nat.add_zero] at this
    rw [this]; exact h
theorem Wk.visit {ts : List T3} {L D S : List Int} {i k : Nat} {v : Int} {E : List P2} {s : OS} (hL : IsLab ts L) (hLi : L[i]? = some (i : Int)) (w : Wk ts L D S (k + 1) s) (hI : BfI ts D S i k v E) {j : Nat} (hj : j < ts.length) (hadj : adjI ts v.toNat j)
    {e b : P2} (he : e ∈ edgesOf (tAt s.us v.toNat)) (hb : b ∈ edgesOf (tAt ts j)) (hbe : b.und = e.und) (hn : (j : Int) ∉ D ++ S) :
    Wk ts L D (S ++ [(j : Int)]) (k + 1) (s.visit j e) ∧ tAt (s.visit j e).us v.toNat = tAt s.us v.toNat := by
  obtain ⟨v0, vc⟩ := hI.part.mem v (List.mem_of_getElem? hI.at_)
  have hvl := vc.lt.2
  have hk := (List.getElem?_eq_some_iff.1 hI.at_).1
  have hvX : ((v.toNat : Nat) : Int) ∈ s.X := by
    rw [w.x, Int.toNat_of_nonneg v0]
    exact List.mem_append.2 (.inr (List.mem_of_getElem? hI.at_))
  have hnX : (j : Int) ∉ s.X := by rw [w.x]; exact hn
  have hLj : L[j]? ≠ some (j : Int) := by
    intro hh
    have h1 := hL.conn (vc.trans (.tail (.refl hvl) hadj))
    rw [hLi, hh] at h1
    have h2 := Option.some.inj h1
    apply hn
    rw [← h2]
    exact List.mem_append.2 (.inr hI.part.start)
  have hvj : v.toNat ≠ j := by
    rintro rfl
    exact hnX hvX
  have hdr : S.drop (k + 1) ++ [(j : Int)] = (S ++ [(j : Int)]).drop (k + 1) := by rw [List.drop_append_of_le_length (by omega)]
  unfold OS.visit
  rw [if_neg hnX]
  by_cases hE : e ∈ edgesOf (tAt s.us j)
  · rw [if_pos hE]
    refine ⟨⟨by simp only [w.x, List.append_assoc], by simp only [List.length_set, w.len], w.ori.turn hvl hj hvX hnX hLj he hE, by simp only [List.drop_zero, w.q, hdr], by simp⟩, ?_⟩
    simp only
    rw [tAt_set (by rw [w.len]; exact hj), if_neg hvj]
  · rw [if_neg hE]
    exact ⟨⟨by simp only [w.x, List.append_assoc], w.len, w.ori.keep hvl hj hvX hnX he hE hb hbe, by simp only [List.drop_zero, w.q, hdr], by simp⟩, rfl⟩
theorem Old.xlen {ts : List T3} {L D : List Int} {i : Nat} (h : Old ts L D i) : D.length ≤ ts.length := by
  have h2 := nodup_len (B := (List.range ts.length).map fun (j : Nat) => (j : Int)) h.nodup fun v hv => by
    obtain ⟨j, rfl, hj, _⟩ := (h.iff v).1 hv
    exact List.mem_map.2 ⟨j, List.mem_range.2 hj, rfl⟩
  simpa using h2
theorem Part.xlen {ts : List T3} {L D S : List Int} {i : Nat} (hD : Old ts L D i) (h : Part ts D S i) : (D ++ S).length ≤ ts.length := by
  have h2 := nodup_len (B := (List.range ts.length).map fun (j : Nat) => (j : Int)) h.nodup fun v hv => by
    rcases List.mem_append.1 hv with hv | hv
    · obtain ⟨j, rfl, hj, _⟩ := (hD.iff v).1 hv
      exact List.mem_map.2 ⟨j, List.mem_range.2 hj, rfl⟩
    · obtain ⟨h0, hc⟩ := h.mem v hv
      exact List.mem_map.2 ⟨v.toNat, List.mem_range.2 hc.lt.2, by omega⟩
  simpa using h2
theorem Old.all {ts : List T3} {L D : List Int} (hL : IsLab ts L) (h : Old ts L D ts.length) (i : Nat) (hi : i < ts.length) : (i : Int) ∈ D := by
  have hv : L[i]? = some (L[i]'(by rw [hL.len]; exact hi)) := List.getElem?_eq_getElem _
  generalize L[i]'(by rw [hL.len]; exact hi) = v at hv
  have h1 := (hL.con i v hv).2.1
  exact (h.iff _).2 ⟨i, rfl, hi, v, hv, by omega⟩
end Go.Abs
