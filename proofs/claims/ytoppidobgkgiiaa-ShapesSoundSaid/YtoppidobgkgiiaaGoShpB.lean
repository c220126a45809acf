/- Part of the library on which the proof stands: an abstract machine, its values and its soundness against the model; or what functions of the program do to such values. -/
import Derived.Test.YtoppidobgkgiiaaGoRevC
import Derived.Test.YtoppidobgkgiiaaGoOv
import Derived.Test.YtoppidobgkgiiaaGoBl
import Derived.Test.YtoppidobgkgiiaaGoSp
import Derived.Test.YtoppidobgkgiiaaGoOriB
set_option linter.unusedVariables false
set_option linter.unusedSimpArgs false
namespace Go.Abs

def crs (b c : V3) : V3 := ⟨b.y * c.z - b.z * c.y, b.z * c.x - b.x * c.z, b.x * c.y - b.y * c.x⟩
def dot3 (a b : V3) : Int := a.x * b.x + a.y * b.y + a.z * b.z
def det3 (a b c : V3) : Int := dot3 a (crs b c)
def vAt (vs : List V3) (i : Int) : V3 := (vs[i.toNat]?).getD ⟨0, 0, 0⟩
def volT (vs : List V3) (t : T3) : Int := det3 (vAt vs t.a) (vAt vs t.b) (vAt vs t.c)
def volL (vs : List V3) (ts : List T3) : Int := (ts.map (volT vs)).sum
def Mesh.vol6 (m : Mesh) : Int := if m.check = 0 then volL m.verts m.tris else 0
def VolC (P : Program) (f : FuncId) : Prop := ∀ m : Mesh, CallIs P f [m.enc] (.i .i64 m.vol6)
def DetC (P : Program) (f : FuncId) : Prop := ∀ a b c : V3, a.valid = true → b.valid = true → c.valid = true → CallIs P f [a.enc, b.enc, c.enc] (.i .i64 (det3 a b c))

theorem volL_nil (vs : List V3) : volL vs [] = 0 := rfl
theorem volL_cons (vs : List V3) (t : T3) (ts : List T3) : volL vs (t :: ts) = volT vs t + volL vs ts := by simp [volL]
theorem volL_app (vs : List V3) (a b : List T3) : volL vs (a ++ b) = volL vs a + volL vs b := by
  induction a with
  | nil => simp [volL_nil]
  | cons t a ih => rw [List.cons_append, volL_cons, volL_cons, ih]; omega
theorem mulB {x y A B : Int} (h1 : -A ≤ x) (h2 : x ≤ A) (h3 : -B ≤ y) (h4 : y ≤ B) : -(A * B) ≤ x * y ∧ x * y ≤ A * B := by
  have hA : 0 ≤ A := by omega
  have hB : 0 ≤ B := by omega
  have a1 := Int.mul_nonneg (a := A - x) (b := B - y) (by omega) (by omega)
  have a2 := Int.mul_nonneg (a := A + x) (b := B + y) (by omega) (by omega)
  have a3 := Int.mul_nonneg (a := A - x) (b := B + y) (by omega) (by omega)
  have a4 := Int.mul_nonneg (a := A + x) (b := B - y) (by omega) (by omega)
  simp only [Int.mul_add, Int.add_mul, Int.mul_sub, Int.sub_mul] at a1 a2 a3 a4
  omega
theorem mul16 {x y : Int} (h1 : -65536 ≤ x) (h2 : x ≤ 65536) (h3 : -65536 ≤ y) (h4 : y ≤ 65536) : -4294967296 ≤ x * y ∧ x * y ≤ 4294967296 := mulB (A := 65536) (B := 65536) h1 h2 h3 h4
theorem crs_b {b c : V3} (hb : b.valid = true) (hc : c.valid = true) : -8589934592 ≤ (crs b c).x ∧ (crs b c).x ≤ 8589934592 ∧ -8589934592 ≤ (crs b c).y ∧ (crs b c).y ≤ 8589934592 ∧ -8589934592 ≤ (crs b c).z ∧ (crs b c).z ≤ 8589934592 := by
  obtain ⟨b1, b2, b3, b4, b5, b6⟩ := V3.valid_iff.1 hb
  obtain ⟨c1, c2, c3, c4, c5, c6⟩ := V3.valid_iff.1 hc
  have m1 := mul16 b3 b4 c5 c6
  have m2 := mul16 b5 b6 c3 c4
  have m3 := mul16 b5 b6 c1 c2
  have m4 := mul16 b1 b2 c5 c6
  have m5 := mul16 b1 b2 c3 c4
  have m6 := mul16 b3 b4 c1 c2
  unfold crs
  refine ⟨?_, ?_, ?_, ?_, ?_, ?_⟩ <;> simp only <;> omega
theorem det3_b {a b c : V3} (ha : a.valid = true) (hb : b.valid = true) (hc : c.valid = true) : -1688849860263936 ≤ det3 a b c ∧ det3 a b c ≤ 1688849860263936 := by
  obtain ⟨b1, b2, b3, b4, b5, b6⟩ := V3.valid_iff.1 ha
  obtain ⟨c1, c2, c3, c4, c5, c6⟩ := crs_b hb hc
  have m1 := mulB b1 b2 c1 c2
  have m2 := mulB b3 b4 c3 c4
  have m3 := mulB b5 b6 c5 c6
  unfold det3 dot3
  omega
theorem vAt_get {vs : List V3} {i : Int} (h0 : 0 ≤ i) (h : i < vs.length) : vs[i.toNat]? = some (vAt vs i) := by
  unfold vAt; rw [List.getElem?_eq_getElem (by omega)]; rfl
theorem vAt_valid {vs : List V3} (hv : vsOk vs = true) {i : Int} (h0 : 0 ≤ i) (h : i < vs.length) : (vAt vs i).valid = true := vsOk_get hv (vAt_get h0 h)
theorem volT_b {vs : List V3} (hv : vsOk vs = true) {t : T3} (ht : t.ok vs.length = true) : -1688849860263936 ≤ volT vs t ∧ volT vs t ≤ 1688849860263936 := by
  obtain ⟨a1, a2, b1, b2, c1, c2⟩ := T3.ok_iff.1 ht
  exact det3_b (vAt_valid hv a1 a2) (vAt_valid hv b1 b2) (vAt_valid hv c1 c2)
theorem volL_b {vs : List V3} (hv : vsOk vs = true) : ∀ {ts : List T3}, tsOk vs.length ts = true → -1688849860263936 * (ts.length : Int) ≤ volL vs ts ∧ volL vs ts ≤ 1688849860263936 * (ts.length : Int)
  | [], _ => by simp [volL_nil]
  | t :: ts, h => by
    have h' : t.ok vs.length = true ∧ tsOk vs.length ts = true := by simpa [tsOk] using h
    have h1 := volT_b hv h'.1
    have h2 := volL_b hv h'.2
    rw [volL_cons, List.length_cons]
    omega
end Go.Abs
set_option linter.unusedVariables false
set_option linter.unusedSimpArgs false
namespace Go.Abs

theorem und_two {a b : P2} (h : a.und = b.und) : a = b ∨ a = b.rev := by
  cases a; cases b
  simp only [P2.und, P2.rev, P2.mk.injEq] at h ⊢
  omega
theorem edgesOf_nodup (t : T3) : (edgesOf t).Nodup := by
  have h0 : edgesOf t = (edges3 t).filter fun e => decide (e.x ≠ e.y) := rfl
  rw [h0, List.nodup_iff_pairwise_ne, List.pairwise_filter]
  unfold edges3
  simp only [List.pairwise_cons, List.mem_cons, List.not_mem_nil, or_false, decide_eq_true_eq, ne_eq, false_implies, implies_true, List.Pairwise.nil, and_true, P2.mk.injEq]
  refine ⟨fun x hx h1 h2 => ?_, fun x hx h1 h2 => ?_⟩
  · rcases hx with rfl | rfl
    · simp only [P2.mk.injEq]; simp only at h1 h2; omega
    · simp only [P2.mk.injEq]; simp only at h1 h2; omega
  · subst hx
    simp only [P2.mk.injEq]; simp only at h1 h2; omega
/-- No two triangles use the same directed edge. -/
def Coh (ts : List T3) : Prop := ∀ (i j : Nat) (e : P2), i < ts.length → j < ts.length → e ∈ edgesOf (tAt ts i) → e ∈ edgesOf (tAt ts j) → i = j
theorem tAt_el {ts : List T3} {i : Nat} (h : i < ts.length) : ts[i] = tAt ts i := by
  have := tAt_get h
  rw [List.getElem?_eq_getElem h] at this
  exact Option.some.inj this
theorem coh_iff {ts : List T3} : (alluses ts).Nodup ↔ Coh ts := by
  have h0 : (alluses ts).Nodup ↔ (∀ t ∈ ts, (edgesOf t).Nodup) ∧ ts.Pairwise fun s t => ∀ x ∈ edgesOf s, ∀ y ∈ edgesOf t, x ≠ y := List.pairwise_flatMap
  rw [h0, List.pairwise_iff_getElem]
  constructor
  · rintro ⟨_, h⟩ i j e hi hj h1 h2
    rcases Nat.lt_trichotomy i j with hh | hh | hh
    · exact absurd rfl (h i j hi hj hh e (by rw [tAt_el hi]; exact h1) e (by rw [tAt_el hj]; exact h2))
    · exact hh
    · exact absurd rfl (h j i hj hi hh e (by rw [tAt_el hj]; exact h2) e (by rw [tAt_el hi]; exact h1))
  · intro h
    refine ⟨fun t _ => edgesOf_nodup t, fun i j hi hj hij x hx y hy => ?_⟩
    rintro rfl
    rw [tAt_el hi] at hx
    rw [tAt_el hj] at hy
    have := h i j x hi hj hx hy
    omega
theorem cohB_iff {ts : List T3} : cohB ts = true ↔ Coh ts := by unfold cohB; rw [decide_eq_true_eq]; exact coh_iff
theorem Fl.tat {ts us : List T3} (h : Fl ts us) {i : Nat} (hi : i < ts.length) : tAt us i = tAt ts i ∨ tAt us i = (tAt ts i).rev :=
  h.at_ i _ _ (tAt_get hi) (tAt_get (by rw [h.len]; exact hi))
theorem tAt_ext {us vs : List T3} (hl : us.length = vs.length) (h : ∀ i, i < us.length → tAt us i = tAt vs i) : us = vs := by
  apply List.ext_getElem?
  intro i
  by_cases hi : i < us.length
  · rw [tAt_get hi, tAt_get (by omega), h i hi]
  · rw [List.getElem?_eq_none (by omega), List.getElem?_eq_none (by omega)]
theorem adj_edge {ts : List T3} {i j : Nat} (h : adjI ts i j) : i < ts.length ∧ j < ts.length ∧ ∃ a ∈ edgesOf (tAt ts i), ∃ b ∈ edgesOf (tAt ts j), a.und = b.und := by
  have hl := h.lt
  obtain ⟨s, t, hs, ht, a, ha, b, hb, hab⟩ := h
  rw [tAt_get hl.1] at hs
  rw [tAt_get hl.2] at ht
  obtain rfl := Option.some.inj hs
  obtain rfl := Option.some.inj ht
  exact ⟨hl.1, hl.2, a, ha, b, hb, hab⟩
theorem adjI_of' {ts : List T3} {i j : Nat} (hi : i < ts.length) (hj : j < ts.length) {a b : P2} (ha : a ∈ edgesOf (tAt ts i)) (hb : b ∈ edgesOf (tAt ts j)) (h : a.und = b.und) : adjI ts i j :=
  ⟨_, _, tAt_get hi, tAt_get hj, a, ha, b, hb, h⟩
/-- A coherent orientation that keeps the first triangle of each shell. -/
structure Good (ts us : List T3) (L : List Int) : Prop where
  fl : Fl ts us
  coh : Coh us
  first : ∀ i : Nat, i < ts.length → L[i]? = some (i : Int) → tAt us i = tAt ts i
theorem Good.step {ts us vs : List T3} {L : List Int} (h : Good ts us L) (k : Good ts vs L) {i j : Nat} (ha : adjI ts i j) (he : tAt us i = tAt vs i) : tAt us j = tAt vs j := by
  obtain ⟨hi, hj, a, haa, b, hbb, hab⟩ := adj_edge (h.fl.adj ha)
  rw [h.fl.len] at hi hj
  by_cases hij : i = j
  · subst hij; exact he
  refine Decidable.byContradiction fun hne => ?_
  have hrev : tAt vs j = (tAt us j).rev := by
    rcases h.fl.tat hj with h1 | h1 <;> rcases k.fl.tat hj with h2 | h2
    · exact absurd (h1.trans h2.symm) hne
    · rw [h1, h2]
    · rw [h1, h2]; rfl
    · exact absurd (h1.trans h2.symm) hne
  rcases und_two hab with rfl | hab
  · exact hij (h.coh i j a (by rw [h.fl.len]; exact hi) (by rw [h.fl.len]; exact hj) haa hbb)
  · refine hij (k.coh i j a (by rw [k.fl.len]; exact hi) (by rw [k.fl.len]; exact hj) (by rw [← he]; exact haa) ?_)
    rw [hrev, mem_edges_rev, hab, rev_rev]
    exact hbb
theorem Good.eq {ts us vs : List T3} {L : List Int} (hL : IsLab ts L) (h : Good ts us L) (k : Good ts vs L) : us = vs := by
  refine tAt_ext (by rw [h.fl.len, k.fl.len]) fun j hj => ?_
  rw [h.fl.len] at hj
  have hv : L[j]? = some (L[j]'(by rw [hL.len]; exact hj)) := List.getElem?_eq_getElem _
  generalize L[j]'(by rw [hL.len]; exact hj) = v at hv
  obtain ⟨v0, v1, hc⟩ := hL.con j v hv
  have hvv := hL.conn hc
  rw [hv] at hvv
  have hc' := hc.symm
  have hvl := hc'.lt.1
  have hLv : L[v.toNat]? = some (v.toNat : Int) := by rw [← hvv]; congr 1; omega
  have h0 : tAt us v.toNat = tAt vs v.toNat := by rw [h.first _ hvl hLv, k.first _ hvl hLv]
  clear hv hvv hc hj v1
  induction hc' with
  | refl _ => exact h0
  | tail _ h2 ih => exact h.step k h2 ih
open Classical in
noncomputable def orientL (ts : List T3) : Option (List T3) := if h : ∃ us, Good ts us (labOf ts) then some (Classical.choose h) else none
theorem orientL_some {ts us : List T3} {L : List Int} (hL : IsLab ts L) (h : Good ts us L) : orientL ts = some us := by
  unfold orientL
  rw [labOf_eq hL]
  have hex : ∃ us, Good ts us L := ⟨us, h⟩
  rw [dif_pos hex]
  congr 1
  exact (Classical.choose_spec hex).eq hL h
theorem orientL_none {ts : List T3} {L : List Int} (hL : IsLab ts L) (h : ∀ us, ¬ Good ts us L) : orientL ts = none := by
  unfold orientL
  rw [labOf_eq hL, dif_neg]
  rintro ⟨us, hu⟩
  exact h us hu
/-- How many triangles differ. -/
def difN (ts us : List T3) : Nat := ((List.range ts.length).filter fun i => decide (tAt us i ≠ tAt ts i)).length
theorem tAt_set {us : List T3} {j : Nat} (hj : j < us.length) (i : Nat) (t : T3) : tAt (us.set j t) i = if i = j then t else tAt us i := by
  unfold tAt
  by_cases h : i = j
  · subst h; rw [List.getElem?_set_self hj, if_pos rfl]; rfl
  · rw [List.getElem?_set_ne (fun hh => h hh.symm), if_neg h]
theorem Fl.set {ts us : List T3} (h : Fl ts us) {j : Nat} (hj : j < ts.length) : Fl ts (us.set j (tAt us j).rev) where
  len := by rw [List.length_set, h.len]
  at_ i t u h1 h2 := by
    have hi := (List.getElem?_eq_some_iff.1 h1).1
    have hju : j < us.length := by rw [h.len]; exact hj
    rw [tAt_get (by rw [List.length_set, h.len]; exact hi)] at h2
    rw [tAt_get hi] at h1
    obtain rfl := Option.some.inj h1
    obtain rfl := Option.some.inj h2
    rw [tAt_set hju]
    split
    · rename_i hh; subst hh
      rcases h.tat hj with h3 | h3
      · exact .inr (by rw [h3])
      · exact .inl (by rw [h3]; rfl)
    · exact h.tat hi
theorem Fl.refl (ts : List T3) : Fl ts ts := ⟨rfl, fun i t u h1 h2 => .inl (by rw [h1] at h2; exact (Option.some.inj h2).symm)⟩
theorem difN_self (ts : List T3) : difN ts ts = 0 := by unfold difN; simp
/-- What is known while the triangles X have been seen. -/
structure OrI (ts us : List T3) (L X : List Int) (n : Nat) : Prop where
  fl : Fl ts us
  new : ∀ i : Nat, i < ts.length → (i : Int) ∉ X → tAt us i = tAt ts i
  first : ∀ i : Nat, i < ts.length → L[i]? = some (i : Int) → tAt us i = tAt ts i
  num : n ≤ X.length
  good : ∀ vs, Good ts vs L → (∀ i : Nat, i < ts.length → (i : Int) ∈ X → tAt us i = tAt vs i) ∧ n = difN ts us
theorem OrI.start (ts : List T3) (L : List Int) : OrI ts ts L [] 0 :=
  ⟨Fl.refl ts, fun _ _ _ => rfl, fun _ _ _ => rfl, Nat.zero_le _, fun vs h => ⟨by simp, by rw [difN_self]⟩⟩
theorem mem_snoc {X : List Int} {k i : Int} : i ∈ X ++ [k] ↔ i ∈ X ∨ i = k := by simp
theorem OrI.keep {ts us : List T3} {L X : List Int} {n : Nat} (h : OrI ts us L X n) {i k : Nat} (hi : i < ts.length) (hk : k < ts.length) (hix : (i : Int) ∈ X) (hx : (k : Int) ∉ X) {e : P2} (he : e ∈ edgesOf (tAt us i)) (hno : e ∉ edgesOf (tAt us k))
    {b : P2} (hb : b ∈ edgesOf (tAt ts k)) (hbe : b.und = e.und) : OrI ts us L (X ++ [(k : Int)]) n where
  fl := h.fl
  new i hi hn := h.new i hi fun hh => hn (mem_snoc.2 (.inl hh))
  first := h.first
  num := by have := h.num; simp; omega
  good vs hv := by
    obtain ⟨h1, h2⟩ := h.good vs hv
    refine ⟨fun j hj hm => ?_, h2⟩
    rcases mem_snoc.1 hm with hm | hm
    · exact h1 j hj hm
    · obtain rfl : j = k := by omega
      have huk := h.new j hj hx
      rw [huk] at hno ⊢
      rcases hv.fl.tat hj with h3 | h3
      · exact h3.symm
      · exfalso
        rcases und_two hbe with rfl | rfl
        · exact hno hb
        · have hij := hv.coh i j e (by rw [hv.fl.len]; exact hi) (by rw [hv.fl.len]; exact hj) (by rw [← h1 i hi hix]; exact he) (by rw [h3, mem_edges_rev]; exact hb)
          subst hij
          exact hx hix
/-- What comes out when all have been seen. -/
theorem OrI.done {ts us : List T3} {L X : List Int} {n : Nat} (hL : IsLab ts L) (h : OrI ts us L X n) (hall : ∀ i : Nat, i < ts.length → (i : Int) ∈ X) :
    (Coh us → orientL ts = some us ∧ n = difN ts us) ∧ (¬ Coh us → orientL ts = none) := by
  constructor
  · intro hc
    have hg : Good ts us L := ⟨h.fl, hc, h.first⟩
    exact ⟨orientL_some hL hg, (h.good us hg).2⟩
  · intro hc
    refine orientL_none hL fun vs hv => hc ?_
    obtain ⟨h1, _⟩ := h.good vs hv
    have : us = vs := tAt_ext (by rw [h.fl.len, hv.fl.len]) fun i hi => by
      rw [h.fl.len] at hi
      exact h1 i hi (hall i hi)
    rw [this]
    exact hv.coh
end Go.Abs
set_option linter.unusedVariables false
set_option linter.unusedSimpArgs false
namespace Go.Abs

theorem mem_all {ts : List T3} {e : P2} : e ∈ alluses ts ↔ ∃ i : Nat, i < ts.length ∧ e ∈ edgesOf (tAt ts i) := by
  unfold alluses
  rw [List.mem_flatMap]
  constructor
  · rintro ⟨t, ht, he⟩
    obtain ⟨i, hi⟩ := List.getElem?_of_mem ht
    have hl := (List.getElem?_eq_some_iff.1 hi).1
    rw [tAt_get hl] at hi
    obtain rfl := Option.some.inj hi
    exact ⟨i, hl, he⟩
  · rintro ⟨i, hl, he⟩
    exact ⟨_, List.mem_of_getElem? (tAt_get hl), he⟩
/-- Every directed edge is used in the other direction, too. -/
def Clo (ts : List T3) : Prop := ∀ e ∈ alluses ts, e.rev ∈ alluses ts
theorem clo_closed {m : Mesh} (hz : m.check = 0) (hc : Coh m.tris) (h : Clo m.tris) : m.closed = true := by
  unfold Mesh.closed
  simp only [Bool.and_eq_true, decide_eq_true_eq]
  refine ⟨hz, ?_⟩
  rw [List.eq_nil_iff_forall_not_mem]
  intro e he
  rw [mem_border] at he
  obtain ⟨_, h1, h2⟩ := he
  unfold Mesh.use at h2
  rw [if_pos hz, if_pos hz] at h2
  have h3 := List.nodup_iff_count.1 (coh_iff.2 hc) e
  have h4 : 0 < (alluses m.tris).count e.rev := List.count_pos_iff.2 (h e h1)
  omega
/-- Triangles next to each other are reversed both or not at all. -/
def Whole (ts : List T3) (F : List Int) : Prop := ∀ i j : Nat, adjI ts i j → ((i : Int) ∈ F ↔ (j : Int) ∈ F)
end Go.Abs
set_option linter.unusedVariables false
set_option linter.unusedSimpArgs false
namespace Go.Abs

def insZ (U : List Int) (x : Int) : List Int := if x ∈ U then U else U ++ [x]
theorem insZ_cases (U : List Int) (x : Int) : (x ∈ U ∧ insZ U x = U) ∨ (x ∉ U ∧ insZ U x = U ++ [x]) := by unfold insZ; by_cases h : x ∈ U <;> simp [h]
def insT (U : List Int) (t : T3) : List Int := insZ (insZ (insZ U t.a) t.b) t.c
def usedZ (ts : List T3) : List Int := ts.foldl insT []
theorem usedZ_snoc (ts : List T3) (t : T3) : usedZ (ts ++ [t]) = insT (usedZ ts) t := by simp [usedZ]
theorem insZ_ok {U : List Int} (h : U.Nodup) (x : Int) : (insZ U x).Nodup ∧ (∀ v, v ∈ insZ U x ↔ v ∈ U ∨ v = x) ∧ (insZ U x).length ≤ U.length + 1 := by
  unfold insZ
  split
  · rename_i hx
    exact ⟨h, fun v => ⟨.inl, fun hh => hh.elim id (fun e => e ▸ hx)⟩, by omega⟩
  · rename_i hx
    refine ⟨?_, fun v => by simp, by simp⟩
    rw [List.nodup_append]
    exact ⟨h, by simp, fun a ha b hb => by simp at hb; subst hb; rintro rfl; exact hx ha⟩
theorem insT_ok {U : List Int} (h : U.Nodup) (t : T3) : (insT U t).Nodup ∧ (∀ v, v ∈ insT U t ↔ v ∈ U ∨ v = t.a ∨ v = t.b ∨ v = t.c) ∧ (insT U t).length ≤ U.length + 3 := by
  obtain ⟨a1, a2, a3⟩ := insZ_ok h t.a
  obtain ⟨b1, b2, b3⟩ := insZ_ok a1 t.b
  obtain ⟨c1, c2, c3⟩ := insZ_ok b1 t.c
  refine ⟨c1, fun v => ?_, by unfold insT; omega⟩
  unfold insT
  rw [c2, b2, a2, or_assoc, or_assoc]
theorem usedZ_ok (ts : List T3) : (usedZ ts).Nodup ∧ (∀ v, v ∈ usedZ ts ↔ ∃ t ∈ ts, v = t.a ∨ v = t.b ∨ v = t.c) ∧ (usedZ ts).length ≤ 3 * ts.length := by
  have key : ∀ k, k ≤ ts.length → (usedZ (ts.take k)).Nodup ∧ (∀ v, v ∈ usedZ (ts.take k) ↔ ∃ t ∈ ts.take k, v = t.a ∨ v = t.b ∨ v = t.c) ∧ (usedZ (ts.take k)).length ≤ 3 * k := by
    intro k
    induction k with
    | zero => intro _; simp [usedZ]
    | succ k ih =>
      intro hk
      obtain ⟨h1, h2, h3⟩ := ih (by omega)
      have hp : ts[k]? = some ts[k] := List.getElem?_eq_getElem (by omega)
      rw [take_succ_get hp, usedZ_snoc]
      obtain ⟨i1, i2, i3⟩ := insT_ok h1 ts[k]
      refine ⟨i1, fun v => ?_, by omega⟩
      rw [i2, h2]
      constructor
      · rintro (⟨t, ht, hv⟩ | hv)
        · exact ⟨t, List.mem_append.2 (.inl ht), hv⟩
        · exact ⟨ts[k], List.mem_append.2 (.inr (by simp)), hv⟩
      · rintro ⟨t, ht, hv⟩
        rcases List.mem_append.1 ht with h | h
        · exact .inl ⟨t, h, hv⟩
        · simp at h; subst h; exact .inr hv
  have := key ts.length (Nat.le_refl _)
  rwa [List.take_length] at this
def Mesh.euler (m : Mesh) : Int := if m.check = 0 then ((usedZ m.tris).length : Int) - m.edgesL.length + m.tris.length else 0
def EulerC (P : Program) (f : FuncId) : Prop := ∀ m : Mesh, CallIs P f [m.enc] (.i .i64 m.euler)
theorem perm_nodupE {l k : List Int} (hl : l.Nodup) (hk : k.Nodup) (h : ∀ v, v ∈ l ↔ v ∈ k) : l.Perm k := by
  rw [List.perm_iff_count]
  intro v
  have c : ∀ {l : List Int}, l.Nodup → l.count v = if v ∈ l then 1 else 0 := fun {l} hl => by
    by_cases he : v ∈ l
    · rw [if_pos he]
      have h1 := List.count_pos_iff.2 he
      have h2 := List.nodup_iff_count.1 hl v
      omega
    · rw [if_neg he]; exact List.count_eq_zero.2 he
  rw [c hl, c hk]
  by_cases hv : v ∈ l
  · rw [if_pos hv, if_pos ((h v).1 hv)]
  · rw [if_neg hv, if_neg (fun hh => hv ((h v).2 hh))]
theorem kt_set {U : List Int} {e : Int} (h : e ∈ U) : (List.map (kt (V.i .i64)) U).set (U.idxOf e) (V.i .i64 e, V.b true) = List.map (kt (V.i .i64)) U := by
  apply List.ext_getElem?
  intro j
  have hlt := List.idxOf_lt_length_iff.2 h
  by_cases hj : U.idxOf e = j
  · subst hj
    rw [List.getElem?_set_self (by simpa using hlt), List.getElem?_map, List.getElem?_eq_getElem hlt, List.getElem_idxOf hlt]
    rfl
  · rw [List.getElem?_set_ne hj]
theorem kt_snoc (U : List Int) (e : Int) : List.map (kt (V.i .i64)) U ++ [(V.i .i64 e, V.b true)] = List.map (kt (V.i .i64)) (U ++ [e]) := by rw [List.map_append]; rfl
theorem kt_find (e : Int) (U : List Int) : findE [1] (V.i .i64 e) (List.map (kt (V.i .i64)) U) = some (if e ∈ U then some (U.idxOf e, .b true) else none) := findE_set key_i64 e U
section
variable {P : Program} (hm : P.follows .mixedOrders = true)
include hm

set_option maxHeartbeats 2000000 in
theorem topo_Euler_ok {f fc fe : FuncId} (hf : FnOk P f (topo_Euler.c fc fe) topo_Euler.r topo_Euler.n) (hc : CheckC P fc) (he : EdgesLC P fe) : EulerC P f := by
  intro m
  refine PureC.is (pure_of hm hf (Nat.le_of_ble_eq_true rfl) ?_) rfl
  unfold topo_Euler.c
  by_cases hz : m.check = 0
  case neg =>
    simp [go_sem, Mesh.enc, Mesh.cs]
    refine ACall_is (hc m) ?_
    simp [go_sem, hz, topo_Euler.r, Mesh.euler]
  have hl := (Mesh.check_zero.1 hz).2.1
  have hel := @edgesL_len m
  have he1 := he m
  have hR : m.euler = ((usedZ m.tris).length : Int) - m.edgesL.length + m.tris.length := by simp [Mesh.euler, hz]
  rw [hR]
  have hul := (usedZ_ok m.tris).2.2
  simp only [Mesh.enc, Mesh.cs, tsV] at he1
  generalize m.edgesL = L at *
  simp [go_sem, Mesh.enc, Mesh.cs, tsV]
  refine ACall_is (hc m) ?_
  simp [go_sem, hz]
  refine AS_loop (α := Nat) (fun k => k ≤ m.tris.length)
    (fun k => ⟨[(1, .p 0 1 0 0), (3, .mp 1), (11, tsV m.tris), (12, .i .i64 m.tris.length), (13, .i .i64 k)], [.arr 1 2 [m.cs], .mp ((usedZ (m.tris.take k)).map (kt (V.i .i64)))]⟩)
    (fun k => m.tris.length - k) 0 (Nat.zero_le _) ?_ ?_
  · simp [go_sem, tsV, usedZ, Mesh.cs, vsV]
  · intro k hk
    by_cases hkl : k = m.tris.length
    · subst hkl
      rw [List.take_length]
      generalize usedZ m.tris = U at *
      simp (disch := omega) [go_sem, tsV, Mesh.cs, wrap64_small]
      refine DCall_is he1 ?_
      simp (disch := omega) [go_sem, psV, wrap64_small, topo_Euler.r]
    · have hlt : k < m.tris.length := by omega
      have hp : m.tris[k]? = some m.tris[k] := List.getElem?_eq_getElem hlt
      generalize m.tris[k] = t at hp
      obtain ⟨_, hp'⟩ := List.getElem?_eq_some_iff.1 hp
      have hsu : usedZ (m.tris.take (k + 1)) = insT (usedZ (m.tris.take k)) t := by rw [take_succ_get hp, usedZ_snoc]
      have hnx : ∀ M, M = usedZ (m.tris.take (k + 1)) → ∃ x', x' ≤ m.tris.length ∧ m.tris.length - x' < m.tris.length - k ∧ (k : Int) + 1 = x' ∧ List.map (kt (V.i .i64)) M = List.map (kt (V.i .i64)) (usedZ (m.tris.take x')) := fun M hM => ⟨k + 1, by omega, by omega, by simp, by rw [hM]⟩
      rw [hsu] at hnx
      unfold insT at hnx
      generalize usedZ (m.tris.take k) = U at *
      have c1 := insZ_cases U t.a
      have c2 := insZ_cases (insZ U t.a) t.b
      have c3 := insZ_cases (insZ (insZ U t.a) t.b) t.c
      generalize insZ (insZ (insZ U t.a) t.b) t.c = U3 at *
      generalize insZ (insZ U t.a) t.b = U2 at *
      generalize insZ U t.a = U1 at *
      have hfin := hnx U3 rfl
      clear hnx
      have hA : U1 = U ++ [t.a] → List.map (kt (V.i .i64)) U ++ [(V.i .i64 t.a, V.b true)] = List.map (kt (V.i .i64)) U1 := fun h => by rw [h, kt_snoc]
      have hB : U2 = U1 ++ [t.b] → List.map (kt (V.i .i64)) U1 ++ [(V.i .i64 t.b, V.b true)] = List.map (kt (V.i .i64)) U2 := fun h => by rw [h, kt_snoc]
      have hC : U3 = U2 ++ [t.c] → List.map (kt (V.i .i64)) U2 ++ [(V.i .i64 t.c, V.b true)] = List.map (kt (V.i .i64)) U3 := fun h => by rw [h, kt_snoc]
      obtain ⟨x', h1, h2, h3, h4⟩ := hfin
      rcases c1 with ⟨ha, rfl⟩ | ⟨ha, eA⟩ <;> rcases c2 with ⟨hb, rfl⟩ | ⟨hb, eB⟩ <;> rcases c3 with ⟨hcc, rfl⟩ | ⟨hcc, eC⟩ <;>
        simp (disch := first | omega | assumption) [-List.map_append, go_sem, tsV, Mesh.cs, hlt, hp, hp', tcs, kt_find, hA, hB, hC, kt_set, ha, hb, hcc, wrap64_small] <;>
        exact ⟨x', h1, h2, h3, rfl, h4, fun a _ => ⟨rfl, rfl⟩⟩

end
end Go.Abs
set_option linter.unusedVariables false
set_option linter.unusedSimpArgs false
namespace Go.Abs

theorem p2_ext {x y : P2} (h1 : x.x = y.x) (h2 : x.y = y.y) : x = y := by cases x; cases y; simp_all

section
variable {P : Program} (hm : P.follows .mixedOrders = true)
include hm

end
end Go.Abs
set_option linter.unusedVariables false
set_option linter.unusedSimpArgs false
namespace Go.Abs

def Mesh.coh (m : Mesh) : Bool := decide (m.check = 0) && cohB m.tris
def CoherentC (P : Program) (f : FuncId) : Prop := ∀ m : Mesh, CallIs P f [m.enc] (.b m.coh)
section
variable {P : Program} (hm : P.follows .mixedOrders = true)
include hm

theorem orient_Coherent_ok {f fc fh : FuncId} (hf : FnOk P f (orient_Coherent.c fc fh) orient_Coherent.r orient_Coherent.n) (hc : CheckC P fc) (hh : CohC P fh) : CoherentC P f := by
  intro m
  refine PureC.is (pure_of hm hf (Nat.le_of_ble_eq_true rfl) ?_) rfl
  unfold orient_Coherent.c
  simp [go_sem, Mesh.enc, Mesh.cs]
  refine ACall_is (hc m) ?_
  by_cases h : m.check = 0
  · have hl := (Mesh.check_zero.1 h).2.1
    simp [go_sem, h]
    refine ACall_is (hh m.tris (by omega)) ?_
    simp [go_sem, orient_Coherent.r, Mesh.coh, h]
  · have h' : (m.check == 0) = false := by simpa using h
    simp [go_sem, h, h', orient_Coherent.r, Mesh.coh]

end
end Go.Abs
set_option linter.unusedVariables false
set_option linter.unusedSimpArgs false
namespace Go.Abs

structure Sphere (T : List T3) (n : Nat) : Prop where
  pos : 0 < T.length
  own : ∃ f : P2 → Nat, ∀ p, p < T.length → ∀ e ∈ edgesOf (tAt T p), f e = p
  clo : ∀ p, p < T.length → ∀ e ∈ edgesOf (tAt T p), ∃ q, q < T.length ∧ e.rev ∈ edgesOf (tAt T q)
  one : ∀ i, i < T.length → Conn T 0 i
  ok : tsOk n T = true
  flat : ∀ t ∈ T, t.a ≠ t.b ∧ t.b ≠ t.c ∧ t.c ≠ t.a
  used : ∀ v : Nat, v < n → ∃ t ∈ T, (v : Int) = t.a ∨ (v : Int) = t.b ∨ (v : Int) = t.c
  num : T.length + 4 = 2 * n
theorem Sphere.coh {T : List T3} {n : Nat} (h : Sphere T n) : Coh T := by
  obtain ⟨f, hf⟩ := h.own
  intro i j e hi hj h1 h2
  rw [← hf i hi e h1, hf j hj e h2]
theorem Sphere.Clo {T : List T3} {n : Nat} (h : Sphere T n) : Go.Abs.Clo T := by
  intro e he
  obtain ⟨p, hp, h1⟩ := mem_all.1 he
  obtain ⟨q, hq, h2⟩ := h.clo p hp e h1
  exact mem_all.2 ⟨q, hq, h2⟩
theorem range_zero : ∀ n, 0 < n → ((List.range n).filter fun i => decide (i = 0)).length = 1
  | 0, h => by omega
  | 1, _ => by simp
  | n + 2, _ => by
    rw [List.range_succ, List.filter_append, List.length_append, range_zero (n + 1) (by omega)]
    simp
theorem Sphere.shells {m : Mesh} {n : Nat} (h : Sphere m.tris n) (hz : m.check = 0) : m.shells.length = 1 := by
  obtain ⟨L, hL⟩ := lab_ex m.tris
  have hR : m.shells = shsK L m.tris.length := by unfold Mesh.shells; rw [if_pos hz, labOf_eq hL, hL.len]
  have h0 : L[0]? = some 0 := by
    have h1 : L[0]? = some (L[0]'(by rw [hL.len]; exact h.pos)) := List.getElem?_eq_getElem _
    obtain ⟨a, b, _⟩ := hL.con 0 _ h1
    rw [h1]; congr 1; omega
  rw [hR]
  unfold shsK
  rw [List.length_map]
  have : (List.range m.tris.length).filter (fun (i : Nat) => decide (L[i]? = some (i : Int))) = (List.range m.tris.length).filter fun i => decide (i = 0) := by
    refine List.filter_congr fun i hi => ?_
    rw [decide_eq_decide, ← hL.conn (h.one i (List.mem_range.1 hi)), h0]
    constructor
    · intro hh; have := Option.some.inj hh; omega
    · rintro rfl; rfl
  rw [this]
  exact range_zero _ h.pos
theorem edgesOf_full {t : T3} (h : t.a ≠ t.b ∧ t.b ≠ t.c ∧ t.c ≠ t.a) : edgesOf t = edges3 t := by
  have h2 : edgesOf t = (edges3 t).filter fun e => decide (e.x ≠ e.y) := rfl
  rw [h2]
  unfold edges3
  simp [h.1, h.2.1, h.2.2]
theorem mem_edges3 {t : T3} (h : t.a ≠ t.b ∧ t.b ≠ t.c ∧ t.c ≠ t.a) {e : P2} : e ∈ edgesOf t ↔ e = ⟨t.a, t.b⟩ ∨ e = ⟨t.b, t.c⟩ ∨ e = ⟨t.c, t.a⟩ := by
  rw [edgesOf_full h]; unfold edges3; simp
theorem alluses_full : ∀ {T : List T3}, (∀ t ∈ T, t.a ≠ t.b ∧ t.b ≠ t.c ∧ t.c ≠ t.a) → (alluses T).length = 3 * T.length
  | [], _ => rfl
  | t :: T, h => by
    have h0 : alluses (t :: T) = edgesOf t ++ alluses T := rfl
    rw [h0, List.length_append, alluses_full (fun x hx => h x (by simp [hx])), edgesOf_full (h t (by simp)), List.length_cons]
    simp only [edges3, List.length_cons, List.length_nil]; omega
theorem asc_nodup {l : List P2} (h : asc l) : l.Nodup := by
  unfold asc at h
  exact h.imp fun {a b} hab => by rintro rfl; exact P2.lt_irrefl a hab
theorem Sphere.edges {m : Mesh} {n : Nat} (h : Sphere m.tris n) (hz : m.check = 0) : 2 * m.edgesL.length = 3 * m.tris.length := by
  rw [← alluses_full h.flat]
  have hnd := coh_iff.2 h.coh
  have hcl : ∀ e ∈ alluses m.tris, e.rev ∈ alluses m.tris := h.Clo
  have hne : ∀ e ∈ alluses m.tris, e.x ≠ e.y := fun e he => alluses_ne he
  have hE : m.edgesL = ascOf ((alluses m.tris).map P2.und) := by unfold Mesh.edgesL; rw [if_pos hz]
  rw [hE]
  generalize alluses m.tris = A at *
  have hB1 : (ascOf (A.map P2.und)).length = (A.filter fun e => decide (e.x < e.y)).length := by
    have hm : ∀ a, a ∈ ascOf (A.map P2.und) ↔ a ∈ A.filter fun e => decide (e.x < e.y) := fun a => by
      rw [mem_ascOf, List.mem_map, List.mem_filter, decide_eq_true_eq]
      constructor
      · rintro ⟨e, he, rfl⟩
        by_cases hlt : e.x < e.y
        · rw [und_lt hlt]; exact ⟨he, hlt⟩
        · rw [und_gt hlt]
          have := hne e he
          exact ⟨hcl e he, by show e.y < e.x; omega⟩
      · rintro ⟨he, hlt⟩
        exact ⟨a, he, und_lt hlt⟩
    refine Nat.le_antisymm (nodup_len (asc_nodup (ascOf_asc _)) fun a ha => (hm a).1 ha) (nodup_len (hnd.filter _) fun a ha => (hm a).2 ha)
  have hB2 : (A.filter fun e => decide (e.x < e.y)).length = (A.filter fun e => !decide (e.x < e.y)).length := by
    have hinj : ∀ l : List P2, l.Nodup → (l.map P2.rev).Nodup := fun l hl => by
      rw [List.nodup_iff_pairwise_ne, List.pairwise_map]
      exact hl.imp fun {a b} hab hh => hab (by have := congrArg P2.rev hh; exact this)
    refine Nat.le_antisymm ?_ ?_
    · have := nodup_len (hinj _ (hnd.filter fun e => decide (e.x < e.y))) (B := A.filter fun e => !decide (e.x < e.y)) fun a ha => by
        obtain ⟨b, hb, rfl⟩ := List.mem_map.1 ha
        obtain ⟨h1, h2⟩ := List.mem_filter.1 hb
        rw [decide_eq_true_eq] at h2
        refine List.mem_filter.2 ⟨hcl b h1, ?_⟩
        have : ¬ b.rev.x < b.rev.y := by show ¬ b.y < b.x; omega
        simp [this]
      simpa using this
    · have := nodup_len (hinj _ (hnd.filter fun e => !decide (e.x < e.y))) (B := A.filter fun e => decide (e.x < e.y)) fun a ha => by
        obtain ⟨b, hb, rfl⟩ := List.mem_map.1 ha
        obtain ⟨h1, h2⟩ := List.mem_filter.1 hb
        have h3 : ¬ b.x < b.y := by simpa using h2
        have h4 := hne b h1
        refine List.mem_filter.2 ⟨hcl b h1, ?_⟩
        have : b.rev.x < b.rev.y := by show b.y < b.x; omega
        simpa using this
      simpa using this
  have hsum : A.length = (A.filter fun e => decide (e.x < e.y)).length + (A.filter fun e => !decide (e.x < e.y)).length := by
    generalize A = l
    induction l with
    | nil => rfl
    | cons a l ih =>
      rw [List.filter_cons, List.filter_cons, List.length_cons]
      by_cases hh : a.x < a.y <;> simp [hh] <;> omega
  omega
theorem Sphere.euler {m : Mesh} (h : Sphere m.tris m.verts.length) (hz : m.check = 0) : m.euler = 2 := by
  have hE := h.edges hz
  obtain ⟨u1, u2, _⟩ := usedZ_ok m.tris
  have hU : (usedZ m.tris).length = m.verts.length := by
    have hp : (usedZ m.tris).Perm ((List.range m.verts.length).map fun (j : Nat) => (j : Int)) := by
      refine perm_nodupE u1 ?_ fun v => ?_
      · rw [List.nodup_iff_pairwise_ne, List.pairwise_map]
        have h0 : (List.range m.verts.length).Nodup := List.nodup_range
        rw [List.nodup_iff_pairwise_ne] at h0
        exact h0.imp fun {a b : Nat} (h : a ≠ b) (hh : (a : Int) = (b : Int)) => h (by omega)
      · rw [u2, List.mem_map]
        constructor
        · rintro ⟨t, ht, hv⟩
          obtain ⟨a1, a2, b1, b2, c1, c2⟩ := T3.ok_iff.1 (List.all_eq_true.1 h.ok t ht)
          exact ⟨v.toNat, List.mem_range.2 (by omega), by omega⟩
        · rintro ⟨j, hj, rfl⟩
          exact h.used j (List.mem_range.1 hj)
    have := hp.length_eq
    simpa using this
  have hn := h.num
  unfold Mesh.euler
  rw [if_pos hz, hU]
  omega
theorem Sphere.all {m : Mesh} (h : Sphere m.tris m.verts.length) (hz : m.check = 0) : m.closed = true ∧ m.coh = true ∧ m.shells.length = 1 ∧ m.euler = 2 :=
  ⟨clo_closed hz h.coh h.Clo, by unfold Mesh.coh; rw [hz, cohB_iff.2 h.coh]; rfl, h.shells hz, h.euler hz⟩
end Go.Abs
set_option linter.unusedVariables false
set_option linter.unusedSimpArgs false
namespace Go.Abs

def P2.valid (p : P2) : Bool := decide (-16777216 ≤ p.x) && decide (p.x ≤ 16777216) && decide (-16777216 ≤ p.y) && decide (p.y ≤ 16777216)
theorem P2.valid_iff {p : P2} : p.valid = true ↔ (-16777216 ≤ p.x ∧ p.x ≤ 16777216 ∧ -16777216 ≤ p.y ∧ p.y ≤ 16777216) := by simp [P2.valid, and_assoc]
def cross0 (a b c : P2) : Int := (b.x - a.x) * (c.y - a.y) - (b.y - a.y) * (c.x - a.x)
def cross2 (a b c : P2) : Int := if a.valid = true ∧ b.valid = true ∧ c.valid = true then cross0 a b c else 0
def turn2 (a b c : P2) : Int := if 0 < cross2 a b c then 1 else if cross2 a b c < 0 then -1 else 0
def PValidC (P : Program) (f : FuncId) : Prop := ∀ p : P2, CallIs P f [p.enc] (.b p.valid)
def Cross2C (P : Program) (f : FuncId) : Prop := ∀ a b c : P2, CallIs P f [a.enc, b.enc, c.enc] (.i .i64 (cross2 a b c))
def Turn2C (P : Program) (f : FuncId) : Prop := ∀ a b c : P2, CallIs P f [a.enc, b.enc, c.enc] (.i .i64 (turn2 a b c))

theorem mul_bd {a b : Int} {k m : Nat} (ha : -(k : Int) ≤ a ∧ a ≤ k) (hb : -(m : Int) ≤ b ∧ b ≤ m) : -((k * m : Nat) : Int) ≤ a * b ∧ a * b ≤ (k * m : Nat) := by
  have h1 : a.natAbs ≤ k := by omega
  have h2 : b.natAbs ≤ m := by omega
  have h3 := Nat.mul_le_mul h1 h2
  rw [← Int.natAbs_mul] at h3
  omega

def convexAt (l : List P2) (k i : Nat) : Bool := decide (i = k) || decide (i = (k + 1) % l.length) || decide (0 < turn2 (l.getD k ⟨0, 0⟩) (l.getD ((k + 1) % l.length) ⟨0, 0⟩) (l.getD i ⟨0, 0⟩))
def convexB (l : List P2) : Bool := decide (∀ k, k < l.length → ∀ i, i < l.length → convexAt l k i = true)
def ConvexC (P : Program) (f : FuncId) : Prop := ∀ l : List P2, l.length ≤ 1000 → CallIs P f [psV l] (.b (convexB l))

section
variable {P : Program} (hm : P.follows .mixedOrders = true)
include hm

theorem planar_Valid_ok {f : FuncId} (hf : FnOk P f planar_Valid.c planar_Valid.r planar_Valid.n) : PValidC P f := by
  intro p
  refine PureC.is (pure_of hm hf (Nat.le_of_ble_eq_true rfl) ?_) rfl
  unfold planar_Valid.c
  simp +contextual -implicitDefEqProofs [go_sem, P2.enc, P2.cs, planar_Valid.r]
  simp [P2.valid, and_assoc]
theorem planar_Cross_ok {f fv : FuncId} (hf : FnOk P f (planar_Cross.c fv) planar_Cross.r planar_Cross.n) (hv : PValidC P fv) : Cross2C P f := by
  intro a b c
  refine PureC.is (pure_of hm hf (Nat.le_of_ble_eq_true rfl) ?_) rfl
  unfold planar_Cross.c
  simp [go_sem, P2.enc, P2.cs]
  refine ACall_is (hv a) ?_
  cases ha : a.valid
  · simp [go_sem, planar_Cross.r, cross2, ha]
  simp [go_sem]
  refine ACall_is (hv b) ?_
  cases hb : b.valid
  · simp [go_sem, planar_Cross.r, cross2, hb]
  simp [go_sem]
  refine ACall_is (hv c) ?_
  cases hc : c.valid
  · simp [go_sem, planar_Cross.r, cross2, hc]
  have h1 := P2.valid_iff.1 ha
  have h2 := P2.valid_iff.1 hb
  have h3 := P2.valid_iff.1 hc
  have m1 := mul_bd (a := b.x - a.x) (b := c.y - a.y) (k := 33554432) (m := 33554432) (by omega) (by omega)
  have m2 := mul_bd (a := b.y - a.y) (b := c.x - a.x) (k := 33554432) (m := 33554432) (by omega) (by omega)
  simp (disch := omega) [go_sem, planar_Cross.r, cross2, ha, hb, hc, wrap64_small, cross0]
theorem planar_Turn_ok {f fc : FuncId} (hf : FnOk P f (planar_Turn.c fc) planar_Turn.r planar_Turn.n) (hc : Cross2C P fc) : Turn2C P f := by
  intro a b c
  refine PureC.is (pure_of hm hf (Nat.le_of_ble_eq_true rfl) ?_) rfl
  unfold planar_Turn.c
  simp [go_sem, P2.enc, P2.cs]
  refine ACall_is (hc a b c) ?_
  unfold turn2
  by_cases h1 : 0 < cross2 a b c
  · simp [go_sem, planar_Turn.r, h1]
  · by_cases h2 : cross2 a b c < 0 <;> simp [go_sem, planar_Turn.r, h1, h2]
end
end Go.Abs
set_option linter.unusedVariables false
set_option linter.unusedSimpArgs false
namespace Go.Abs

def levelVs (l : List P2) (z : Int) : List V3 := l.map fun p => ⟨p.x, p.y, z⟩
def LevelC (P : Program) (f : FuncId) : Prop := ∀ (l : List P2) (z : Int), l.length ≤ 1000 → NewC P f [psV l, .i .i64 z] (fun r h => r = .own 0 (l.length + 1) 0 l.length ∧ h = [.arr (l.length + 1) 3 ((levelVs l z).map V3.cs)])
def bottomT (k : Nat) : T3 := ⟨0, (k : Int) + 2, (k : Int) + 1⟩
def bottomTs (n : Nat) : List T3 := (List.range n).map bottomT
def BottomC (P : Program) (f : FuncId) : Prop := ∀ n : Nat, n ≤ 1000 → NewC P f [.i .i64 ((n : Int) + 2)] (fun r h => r = .own 0 (n + 1) 0 n ∧ h = [.arr (n + 1) 3 ((bottomTs n).map T3.cs)])

section
variable {P : Program} (hm : P.follows .mixedOrders = true)
include hm

set_option maxHeartbeats 4000000 in
theorem shapes_level_ok {f : FuncId} (hf : FnOk P f shapes_level.c shapes_level.r shapes_level.n) : LevelC P f := by
  intro l z hl
  refine new_of hm hf (Nat.le_of_ble_eq_true rfl) ?_
  unfold shapes_level.c
  simp [go_sem, psV]
  refine AS_loopG [.t 5 3] (α := Nat) (fun k => k ≤ l.length)
    (fun k => ⟨[(1, .i .i64 z), (5, .own 0 (k + 1) 0 k), (8, psV l), (9, .i .i64 l.length), (10, .i .i64 k)], [.arr (k + 1) 3 ((levelVs (l.take k) z).map V3.cs)]⟩)
    (fun k => l.length - k) 0 (Nat.zero_le _) ?_ ?_
  · simp [go_sem, psV, levelVs]
  · intro k hk
    cases hp : l[k]? with
    | none =>
      have : ¬ k < l.length := by simpa using hp
      obtain rfl : k = l.length := by omega
      simp [go_sem, psV, shapes_level.r]
    | some p =>
      obtain ⟨hlt, hp'⟩ := List.getElem?_eq_some_iff.1 hp
      simp [go_sem, psV, hlt, hp', pcs]
      simp (disch := omega) [go_sem, wrap64_small]
      have hsucc : l.take (k + 1) = l.take k ++ [p] := by simp [List.take_add_one, hp]
      have hlen : (levelVs (l.take k) z).length = k := by simp [levelVs]; omega
      refine ⟨⟨by omega, by omega, by omega⟩, k + 1, by omega, by omega, ⟨rfl, by omega⟩, rfl, ?_⟩
      rw [List.take_of_length_le (by simp [hlen]), hsucc]
      simp [levelVs, V3.cs]
set_option maxHeartbeats 4000000 in
theorem shapes_bottom_ok {f : FuncId} (hf : FnOk P f shapes_bottom.c shapes_bottom.r shapes_bottom.n) : BottomC P f := by
  intro n hn
  refine new_of hm hf (Nat.le_of_ble_eq_true rfl) ?_
  unfold shapes_bottom.c
  simp [go_sem]
  refine AS_loopG [.t 3 3] (α := Nat) (fun k => k ≤ n)
    (fun k => ⟨[(0, .i .i64 ((n : Int) + 2)), (3, .own 0 (k + 1) 0 k), (4, .i .i64 ((k : Int) + 1))], [.arr (k + 1) 3 ((bottomTs k).map T3.cs)]⟩)
    (fun k => n - k) 0 (Nat.zero_le _) ?_ ?_
  · simp [go_sem, bottomTs]
  · intro k hk
    by_cases hkn : k = n
    · subst hkn
      simp (disch := omega) [go_sem, wrap64_small, shapes_bottom.r, show ¬ (k : Int) + 1 < (k : Int) + 2 - 1 by omega]
    · simp (disch := omega) [go_sem, wrap64_small, show (k : Int) + 1 < (n : Int) + 2 - 1 by omega]
      have hlen : (bottomTs k).length = k := by simp [bottomTs]
      refine ⟨⟨by omega, by omega, by omega⟩, k + 1, by omega, by omega, ⟨rfl, by omega⟩, rfl, ?_⟩
      rw [List.take_of_length_le (by simp [hlen])]
      simp [bottomTs, List.range_succ, bottomT, T3.cs]
      omega

set_option maxHeartbeats 4000000 in
theorem shapes_convex_ok {f ft : FuncId} (hf : FnOk P f (shapes_convex.c ft) shapes_convex.r shapes_convex.n) (ht : Turn2C P ft) : ConvexC P f := by
  intro l hl
  refine PureC.is (pure_of hm hf (Nat.le_of_ble_eq_true rfl) ?_) rfl
  unfold shapes_convex.c
  simp [go_sem, psV]
  refine AS_loop (α := Nat) (fun k => k ≤ l.length ∧ ∀ k', k' < k → ∀ i, i < l.length → convexAt l k' i = true)
    (fun k => ⟨[(0, psV l), (8, psV l), (9, .i .i64 l.length), (10, .i .i64 k)], []⟩)
    (fun k => l.length - k) 0 ⟨Nat.zero_le _, by omega⟩ ?_ ?_
  · simp [go_sem, psV]
  · rintro k ⟨hk, hok⟩
    cases hp : l[k]? with
    | none =>
      have : ¬ k < l.length := by simpa using hp
      obtain rfl : k = l.length := by omega
      simp [go_sem, psV, shapes_convex.r]
      simpa [convexB] using hok
    | some p =>
      obtain ⟨hlt, hp'⟩ := List.getElem?_eq_some_iff.1 hp
      have hne : ¬ l = [] := by rintro rfl; simp at hlt
      have hj : ((k : Int) + 1).tmod (l.length : Int) = (((k + 1) % l.length : Nat) : Int) := by
        rw [Int.tmod_eq_emod_of_nonneg (by omega)]; simp
      have hjl : (k + 1) % l.length < l.length := Nat.mod_lt _ (by omega)
      have hat : ∀ i, convexAt l k i = (decide (i = k) || decide (i = (k + 1) % l.length) || decide (0 < turn2 (l.getD k ⟨0, 0⟩) (l.getD ((k + 1) % l.length) ⟨0, 0⟩) (l.getD i ⟨0, 0⟩))) := fun i => rfl
      generalize (k + 1) % l.length = j at hj hjl hat
      have hpd : l.getD k ⟨0, 0⟩ = p := by simp [hp]
      have hjd : l.getD j ⟨0, 0⟩ = l[j] := by simp [hjl]
      rw [hpd, hjd] at hat
      simp [go_sem, psV, hlt, hp', pcs]
      simp (disch := omega) [go_sem, wrap64_small, hne, hj]
      refine AS_loop (α := Nat) (fun i => i ≤ l.length ∧ ∀ i', i' < i → convexAt l k i' = true)
        (fun i => ⟨[(0, psV l), (3, .i .i64 k), (4, .p 0 1 0 0), (5, .i .i64 j), (8, psV l), (9, .i .i64 l.length), (10, .i .i64 k), (20, psV l), (21, .i .i64 l.length), (22, .i .i64 i)], [.arr 1 2 [p.cs]]⟩)
        (fun i => l.length - i) 0 ⟨Nat.zero_le _, by omega⟩ ?_ ?_
      · simp [go_sem, psV, pcs]
      · rintro i ⟨hi, hoki⟩
        cases hq : l[i]? with
        | none =>
          have : ¬ i < l.length := by simpa using hq
          obtain rfl : i = l.length := by omega
          simp (disch := omega) [go_sem, psV, wrap64_small]
          refine ⟨k + 1, ⟨by omega, fun k' hk' i' hi' => ?_⟩, by omega, by omega⟩
          by_cases h : k' = k
          · subst h; exact hoki i' hi'
          · exact hok k' (by omega) i' hi'
        | some q =>
          obtain ⟨hlti, hq'⟩ := List.getElem?_eq_some_iff.1 hq
          have hqd : l.getD i ⟨0, 0⟩ = q := by simp [hq]
          have hnext : convexAt l k i = true → ∀ i', i' < i + 1 → convexAt l k i' = true := fun h i' hi' => by
            by_cases h' : i' = i
            · subst h'; exact h
            · exact hoki i' (by omega)
          by_cases hik : i = k
          · have hcv : convexAt l k i = true := by rw [hat]; simp [hik]
            have e1 : ((i : Int) != (k : Int)) = false := by simp [hik]
            simp (disch := omega) [go_sem, psV, wrap64_small, hlti, hq', pcs, e1]
            exact ⟨i + 1, ⟨by omega, hnext hcv⟩, by omega, by omega⟩
          · have e1 : ((i : Int) != (k : Int)) = true := by simp; omega
            by_cases hij : i = j
            · have hcv : convexAt l k i = true := by rw [hat]; simp [hij]
              have e2 : ((i : Int) != (j : Int)) = false := by simp [hij]
              simp (disch := omega) [go_sem, psV, wrap64_small, hlti, hq', pcs, e1, e2]
              exact ⟨i + 1, ⟨by omega, hnext hcv⟩, by omega, by omega⟩
            · have e2 : ((i : Int) != (j : Int)) = true := by simp; omega
              simp (disch := omega) [go_sem, psV, wrap64_small, hlti, hq', hjl, pcs, e1, e2]
              refine DCall_is (ht p l[j] q) ?_
              by_cases hturn : 0 < turn2 p l[j] q
              · have hcv : convexAt l k i = true := by rw [hat, hqd]; simp [hturn]
                simp (disch := omega) [go_sem, psV, wrap64_small, pcs, show ¬ turn2 p l[j] q ≤ 0 by omega]
                exact ⟨i + 1, ⟨by omega, hnext hcv⟩, by omega, by omega⟩
              · simp (disch := omega) [go_sem, shapes_convex.r, show turn2 p l[j] q ≤ 0 by omega]
                have hcf : convexAt l k i = false := by rw [hat, hqd]; simp [hik, hij, hturn]
                rw [Bool.eq_false_iff]
                intro hcv
                have := (of_decide_eq_true hcv) k hlt i hlti
                rw [hcf] at this; cases this
end
end Go.Abs
set_option linter.unusedVariables false
set_option linter.unusedSimpArgs false
namespace Go.Abs

def V3.inR (v : V3) : Bool := inI v.x && inI v.y && inI v.z
def boxTris : List T3 := [⟨0, 2, 3⟩, ⟨0, 3, 1⟩, ⟨4, 5, 7⟩, ⟨4, 7, 6⟩, ⟨0, 1, 5⟩, ⟨0, 5, 4⟩, ⟨2, 6, 7⟩, ⟨2, 7, 3⟩, ⟨0, 4, 6⟩, ⟨0, 6, 2⟩, ⟨1, 3, 7⟩, ⟨1, 7, 5⟩]
def boxV (p s : V3) : V :=
  if s.x < 1 ∨ s.y < 1 ∨ s.z < 1 then mesV noMesh 1
  else if p.valid = true ∧ (p.add s).valid = true then mesV ⟨boxVerts p s, boxTris⟩ 0
  else mesV noMesh 8
def BoxC (P : Program) (f : FuncId) : Prop := ∀ p s : V3, p.inR = true → s.inR = true → CallIs P f [p.enc, s.enc] (boxV p s)

section
variable {P : Program} (hm : P.follows .mixedOrders = true)
include hm

end
end Go.Abs
