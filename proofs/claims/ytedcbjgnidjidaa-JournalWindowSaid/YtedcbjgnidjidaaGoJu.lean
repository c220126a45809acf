/- The memory of a journal, by its pages: plain laws. -/
import Derived.Test.YtedcbjgnidjidaaGoJt
set_option linter.unusedVariables false
set_option linter.unusedSimpArgs false
namespace Go.Abs

def zpage : List UInt8 := List.replicate 64 0
theorem zpage_dec : (decR zpage).2 ≠ 0 := by decide +kernel

theorem decR_zero {p : List UInt8} {a : Rec} (h : decR p = (a, 0)) : a.good ∧ recB a = p := by
  unfold decR at h
  split at h
  · simp at h
  · split at h
    · rename_i hh
      simp only [Prod.mk.injEq] at h
      rw [← h.1]; exact hh
    · simp at h

theorem sorted_ext : ∀ {l1 l2 : List Rec}, l1.Pairwise (fun a b => a.seq < b.seq) → l2.Pairwise (fun a b => a.seq < b.seq) → (∀ a, a ∈ l1 ↔ a ∈ l2) → l1 = l2
  | [], [], _, _, _ => rfl
  | [], y :: l2, _, _, h => by have := (h y).2 (by simp); simp at this
  | x :: l1, [], _, _, h => by have := (h x).1 (by simp); simp at this
  | x :: l1, y :: l2, h1, h2, h => by
    have p1 := List.pairwise_cons.1 h1
    have p2 := List.pairwise_cons.1 h2
    have hxy : x = y := by
      rcases List.mem_cons.1 ((h x).1 (by simp)) with h3 | h3
      · exact h3
      · rcases List.mem_cons.1 ((h y).2 (by simp)) with h4 | h4
        · exact h4.symm
        · have := p2.1 x h3; have := p1.1 y h4; omega
    subst hxy
    rw [sorted_ext p1.2 p2.2 fun a => ?_]
    constructor
    · intro ha
      rcases List.mem_cons.1 ((h a).1 (by simp [ha])) with h3 | h3
      · subst h3; have := p1.1 a ha; omega
      · exact h3
    · intro ha
      rcases List.mem_cons.1 ((h a).2 (by simp [ha])) with h3 | h3
      · subst h3; have := p2.1 a ha; omega
      · exact h3

theorem srt_strict {l : List Rec} (hd : seqDis l) : (srt l).Pairwise (fun a b => a.seq < b.seq) := by
  have h1 := srt_up l
  have h2 : seqDis (srt l) := (List.Perm.pairwise_iff (fun h => fun h' => h h'.symm) (srt_perm l)).2 hd
  exact (List.Pairwise.and h1 h2).imp (fun h => by omega)

theorem recsK_in {ps : List (List UInt8)} {a : Rec} {i : Nat} {p : List UInt8} (hp : ps[i]? = some p) (hd : decR p = (a, 0)) (hm : a.seq.tmod ps.length = i) : a ∈ recsK ps ps.length := by
  have hi := (List.getElem?_eq_some_iff.1 hp).1
  simp only [recsK, List.mem_filterMap, List.mem_range]
  exact ⟨i, hi, by simp [hp, recAt, hd, hm]⟩

theorem srt_last {l : List Rec} {m : Rec} (hd : seqDis l) (hm : m ∈ l) (hmax : ∀ a ∈ l, a.seq ≤ m.seq) : (srt l).getLast? = some m := by
  have hm' := (srt_perm l).mem_iff.2 hm
  have hne : srt l ≠ [] := List.ne_nil_of_mem hm'
  rw [List.getLast?_eq_some_getLast hne]
  have h1 : (srt l).getLast hne ∈ l := (srt_perm l).mem_iff.1 (List.getLast_mem hne)
  have h2 := hmax _ h1
  congr 1
  refine seqDis_inj hd h1 hm ?_
  have h3 : (srt l) = (srt l).dropLast ++ [(srt l).getLast hne] := (List.dropLast_concat_getLast hne).symm
  rw [h3] at hm'
  rcases List.mem_append.1 hm' with h4 | h4
  · have hu := srt_up l
    rw [h3] at hu
    have := (List.pairwise_append.1 hu).2.2 m h4 ((srt l).getLast hne) (List.mem_singleton.2 rfl)
    omega
  · simp at h4; rw [← h4]

structure WInv (n : Nat) (ps : List (List UInt8)) (all : List Rec) : Prop where
  len : ps.length = n
  recs : ∀ (j : Nat) (r : Rec), all[j]? = some r → r.good ∧ r.seq = j + 1
  page : ∀ i, i < n → (∃ j r, all[j]? = some r ∧ all.length ≤ j + n ∧ (j + 1) % n = i ∧ ps[i]? = some (recB r)) ∨ (ps[i]? = some zpage ∧ ∀ j, j < all.length → (j + 1) % n ≠ i)

theorem WInv.init {n : Nat} : WInv n (List.replicate n zpage) [] :=
  ⟨by simp, by simp, fun i hi => .inr ⟨by simp [hi], by simp⟩⟩

theorem mod_apart {a b n : Nat} (h : a % n = b % n) (h1 : a < b + n) (h2 : b < a + n) : a = b := by
  have ha := Nat.div_add_mod a n
  have hb := Nat.div_add_mod b n
  rcases Nat.lt_trichotomy (a / n) (b / n) with hq | hq | hq
  · have := Nat.mul_le_mul_left n (show a / n + 1 ≤ b / n from hq)
    rw [Nat.mul_add, Nat.mul_one] at this
    omega
  · rw [hq] at ha; omega
  · have := Nat.mul_le_mul_left n (show b / n + 1 ≤ a / n from hq)
    rw [Nat.mul_add, Nat.mul_one] at this
    omega

theorem WInv.step {n : Nat} {ps : List (List UInt8)} {all : List Rec} {r : Rec} (h2 : 2 ≤ n) (h : WInv n ps all) (hg : r.good) (hs : r.seq = all.length + 1) : WInv n (ps.set ((all.length + 1) % n) (recB r)) (all ++ [r]) := by
  have hlt : (all.length + 1) % n < n := Nat.mod_lt _ (by omega)
  refine ⟨by simp [h.len], fun j q hq => ?_, fun i hi => ?_⟩
  · rw [List.getElem?_append] at hq
    split at hq
    · exact h.recs j q hq
    · rename_i hj
      have : j = all.length := by
        have := (List.getElem?_eq_some_iff.1 hq).1
        simp at this; omega
      subst this
      simp at hq
      subst hq
      exact ⟨hg, by omega⟩
  · by_cases hii : (all.length + 1) % n = i
    · refine .inl ⟨all.length, r, by simp, by simp; omega, hii, ?_⟩
      subst hii
      rw [List.getElem?_set_self (by rw [h.len]; exact hlt)]
    · rw [List.getElem?_set_ne hii]
      rcases h.page i hi with ⟨j, q, h3, h4, h5, h6⟩ | ⟨h3, h4⟩
      · have hjl := (List.getElem?_eq_some_iff.1 h3).1
        refine .inl ⟨j, q, by rw [List.getElem?_append_left hjl]; exact h3, ?_, h5, h6⟩
        simp only [List.length_append, List.length_cons, List.length_nil]
        refine Decidable.byContradiction fun hc => hii ?_
        have : all.length + 1 = j + 1 + n := by omega
        rw [this, Nat.add_mod_right, h5]
      · refine .inr ⟨h3, fun j hj => ?_⟩
        simp at hj
        by_cases hje : j = all.length
        · subst hje; exact hii
        · exact h4 j (by omega)

theorem tmod_nat (a : Nat) (n : Nat) : ((a : Int) + 1).tmod n = (((a + 1) % n : Nat) : Int) := by
  rw [show (a : Int) + 1 = ((a + 1 : Nat) : Int) by omega, Int.ofNat_tmod]
theorem tmod_nat0 (a : Nat) (n : Nat) : (a : Int).tmod n = ((a % n : Nat) : Int) := Int.ofNat_tmod ..

theorem WInv.all {n : Nat} {ps : List (List UInt8)} {all : List Rec} (h2 : 2 ≤ n) (h : WInv n ps all) : srt (recsK ps ps.length) = all.drop (all.length - n) := by
  refine sorted_ext (srt_strict (recsK_dis _ _)) ?_ fun a => ?_
  · rw [List.pairwise_iff_getElem]
    intro i j hi hj hij
    simp only [List.getElem_drop]
    have h3 := (h.recs (all.length - n + i) _ (List.getElem?_eq_getElem (by simp at hi; omega))).2
    have h4 := (h.recs (all.length - n + j) _ (List.getElem?_eq_getElem (by simp at hj; omega))).2
    omega
  · rw [(srt_perm _).mem_iff]
    constructor
    · intro ha
      obtain ⟨i, p, hi, hp, hd, hm⟩ := recsK_mem ha
      rw [h.len] at hi
      rcases h.page i hi with ⟨j, r, h3, h4, h5, h6⟩ | ⟨h3, h4⟩
      · rw [hp] at h6
        obtain rfl := Option.some.inj h6
        rw [dec_enc (h.recs j r h3).1] at hd
        simp only [Prod.mk.injEq, and_true] at hd
        subst hd
        refine List.mem_of_getElem? (i := j - (all.length - n)) ?_
        rw [List.getElem?_drop, show all.length - n + (j - (all.length - n)) = j by omega]
        exact h3
      · rw [hp] at h3
        obtain rfl := Option.some.inj h3
        exact absurd (by rw [hd]) zpage_dec
    · intro ha
      obtain ⟨k, hk⟩ := List.getElem?_of_mem ha
      rw [List.getElem?_drop] at hk
      generalize hj : all.length - n + k = j at hk
      have hjl := (List.getElem?_eq_some_iff.1 hk).1
      obtain ⟨hg, hs⟩ := h.recs j a hk
      have hlt : (j + 1) % n < n := Nat.mod_lt _ (by omega)
      rcases h.page ((j + 1) % n) hlt with ⟨j', r, h3, h4, h5, h6⟩ | ⟨h3, h4⟩
      · have hjl' := (List.getElem?_eq_some_iff.1 h3).1
        have := mod_apart h5 (by omega) (by omega)
        obtain rfl : j' = j := by omega
        rw [hk] at h3
        obtain rfl := Option.some.inj h3
        refine recsK_in h6 (dec_enc hg) ?_
        rw [hs, h.len, tmod_nat]
      · exact absurd rfl (h4 j hjl)

/-- The bytes of a record's page: its number stands first and last. -/
theorem recB_head (r : Rec) : (recB r).take 6 = be 6 r.seq.toNat := by
  unfold recB bodyB headB
  rw [show be 6 r.seq.toNat ++ be 1 r.kind.toNat ++ be 6 r.line.toNat ++ be 4 r.done.toNat ++ pos r.fr ++ pos r.to ++ be 2 (crc (be 6 r.seq.toNat ++ be 1 r.kind.toNat ++ be 6 r.line.toNat ++ be 4 r.done.toNat ++ pos r.fr ++ pos r.to)) ++ List.replicate 7 0 ++ be 6 r.seq.toNat
    = be 6 r.seq.toNat ++ (be 1 r.kind.toNat ++ be 6 r.line.toNat ++ be 4 r.done.toNat ++ pos r.fr ++ pos r.to ++ be 2 (crc (be 6 r.seq.toNat ++ be 1 r.kind.toNat ++ be 6 r.line.toNat ++ be 4 r.done.toNat ++ pos r.fr ++ pos r.to)) ++ List.replicate 7 0 ++ be 6 r.seq.toNat) by simp only [List.append_assoc]]
  exact List.take_left' (be_len _ _)
theorem recB_tail (r : Rec) : (recB r).drop 58 = be 6 r.seq.toNat := by
  unfold recB
  exact List.drop_left' (by simp [bodyB_len, be_len])
theorem be6_inj {a b : Nat} (ha : a < 281474976710656) (hb : b < 281474976710656) (h : be 6 a = be 6 b) : a = b := by
  have := congrArg natOf h
  rwa [natOf_be 6 a (by simpa using ha), natOf_be 6 b (by simpa using hb)] at this
theorem be6_last (a : Nat) : (be 6 a)[5]? = some (UInt8.ofNat a) := by
  rw [be_get (by omega)]; unfold byteAt; rw [show 6 - 1 - 5 = 0 from rfl, Nat.pow_zero, Nat.div_one]
theorem drop58_last {p : List UInt8} (h : p.length = 64) : (p.drop 58)[5]? = p[63]? := by rw [List.getElem?_drop]
theorem byte_ne {a b : Nat} (h : UInt8.ofNat a = UInt8.ofNat b) : a % 256 = b % 256 := by
  have := congrArg UInt8.toNat h
  simpa using this

/-- The page at which the next record belongs: it bears the number of the old record last, and, if its last bytes were touched, the new number first. -/
def curOk (n s : Nat) (p : List UInt8) : Prop := p.length = 64 ∧ p[63]? = (be 6 (s - n))[5]? ∧ (p.drop 58 = be 6 (s - n) ∨ p.take 6 = be 6 s)

structure SInv (n : Nat) (ps : List (List UInt8)) (s : Nat) (R : Nat → Rec) : Prop where
  len : ps.length = n
  pos : 1 ≤ s
  small : s ≤ 1099511627777
  good : ∀ q, 1 ≤ q → q < s → (R q).good ∧ (R q).seq = q
  page : ∀ i, i < n → i ≠ s % n → (∃ q, 1 ≤ q ∧ q < s ∧ s < q + n ∧ q % n = i ∧ ps[i]? = some (recB (R q))) ∨ (ps[i]? = some zpage ∧ ∀ q, 1 ≤ q → q < s → q % n ≠ i)
  cur : ∃ p, ps[s % n]? = some p ∧ curOk n s p

theorem SInv.init {n : Nat} (h2 : 2 ≤ n) (R : Nat → Rec) : SInv n (List.replicate n zpage) 1 R := by
  refine ⟨by simp, by omega, by omega, fun q h1 h2 => by omega, fun i hi _ => .inr ⟨by simp [hi], fun q h1 h2 => by omega⟩, zpage, ?_, by simp [zpage], ?_, .inl ?_⟩
  · rw [Nat.mod_eq_of_lt (by omega), List.getElem?_replicate, if_pos (by omega)]
  · rw [show 1 - n = 0 by omega]; decide
  · rw [show 1 - n = 0 by omega]; decide

/-- What the page of the next record may decode to is the record of the old number. -/
theorem curOk.dec {n s : Nat} {p : List UInt8} {a : Rec} (h2 : 2 ≤ n) (h9 : n ≤ 9) (h1 : 1 ≤ s) (hs : s ≤ 1099511627777) (h : curOk n s p) (hd : decR p = (a, 0)) : a.seq = (s - n : Nat) := by
  obtain ⟨hl, hlast, hc⟩ := h
  obtain ⟨hg, hb⟩ := decR_zero hd
  have hgs : 1 ≤ a.seq ∧ a.seq ≤ 1099511627776 := by
    have := hg.1
    unfold Rec.head at this; omega
  have ht := recB_tail a
  have hh := recB_head a
  rw [hb] at ht hh
  rcases hc with hc | hc
  · rw [hc] at ht
    have := be6_inj (by omega) (by omega) ht
    omega
  · rw [hc] at hh
    have h3 := be6_inj (by omega) (by omega) hh
    have h4 := drop58_last hl
    rw [ht, hlast, ← h3, be6_last, be6_last] at h4
    have h5 := byte_ne (Option.some.inj h4)
    exfalso
    omega

theorem SInv.last {n : Nat} {ps : List (List UInt8)} {s : Nat} {R : Nat → Rec} (h2 : 2 ≤ n) (h9 : n ≤ 9) (h : SInv n ps s R) :
    (srt (recsK ps ps.length)).getLast? = if s = 1 then none else some (R (s - 1)) := by
  have hmax : ∀ a ∈ recsK ps ps.length, a.good ∧ a.seq < s := by
    intro a ha
    obtain ⟨i, p, hi, hp, hd, hm⟩ := recsK_mem ha
    rw [h.len] at hi
    obtain ⟨hg, hb⟩ := decR_zero hd
    refine ⟨hg, ?_⟩
    have hgs : 1 ≤ a.seq := by
      have := hg.1
      unfold Rec.head at this; omega
    by_cases hii : i = s % n
    · obtain ⟨p', hp', hc⟩ := h.cur
      rw [← hii, hp] at hp'
      obtain rfl := Option.some.inj hp'
      have := hc.dec h2 h9 h.pos h.small hd
      omega
    · rcases h.page i hi hii with ⟨q, q1, q2, q3, q4, q5⟩ | ⟨q1, q2⟩
      · rw [hp] at q5
        obtain rfl := Option.some.inj q5
        obtain ⟨g1, g2⟩ := h.good q q1 q2
        rw [dec_enc g1] at hd
        simp only [Prod.mk.injEq, and_true] at hd
        rw [← hd, g2]; omega
      · rw [hp] at q1
        obtain rfl := Option.some.inj q1
        exact absurd (by rw [hd]) zpage_dec
  by_cases h1 : s = 1
  · rw [if_pos h1]
    have : recsK ps ps.length = [] := by
      rw [List.eq_nil_iff_forall_not_mem]
      intro a ha
      obtain ⟨hg, hlt⟩ := hmax a ha
      have := hg.1
      unfold Rec.head at this; omega
    rw [this]; simp [srt]
  · rw [if_neg h1]
    have hp := h.pos
    obtain ⟨g1, g2⟩ := h.good (s - 1) (by omega) (by omega)
    refine srt_last (recsK_dis _ _) ?_ fun a ha => by have := (hmax a ha).2; omega
    have hne : (s - 1) % n ≠ s % n := by
      intro hh
      have := mod_apart hh (by omega) (by omega)
      omega
    rcases h.page ((s - 1) % n) (Nat.mod_lt _ (by omega)) hne with ⟨q, q1, q2, q3, q4, q5⟩ | ⟨q1, q2⟩
    · have := mod_apart q4 (by omega) (by omega)
      subst this
      refine recsK_in q5 (dec_enc g1) ?_
      rw [g2, h.len, tmod_nat0]
    · exact absurd rfl (q2 (s - 1) (by omega) (by omega))

theorem SInv.full {n : Nat} {ps : List (List UInt8)} {s : Nat} {R : Nat → Rec} {r : Rec} (h2 : 2 ≤ n) (h9 : n ≤ 9) (h : SInv n ps s R) (hg : r.good) (hs : r.seq = s) : SInv n (ps.set (s % n) (recB r)) (s + 1) (fun q => if q = s then r else R q) := by
  have hsm : s ≤ 1099511627776 := by
    have := hg.1
    unfold Rec.head at this; omega
  have hlt : s % n < n := Nat.mod_lt _ (by omega)
  have hne : (s + 1) % n ≠ s % n := by
    intro hh
    have := mod_apart hh (by omega) (by omega)
    omega
  have hpos := h.pos
  refine ⟨by simp [h.len], by omega, by omega, fun q h1 h2 => ?_, fun i hi hin => ?_, ?_⟩
  · by_cases hq : q = s
    · subst hq; simp [hg, hs]
    · rw [if_neg hq]; exact h.good q h1 (by omega)
  · by_cases hii : s % n = i
    · refine .inl ⟨s, by omega, by omega, by omega, hii, ?_⟩
      subst hii
      rw [List.getElem?_set_self (by rw [h.len]; exact hlt), if_pos rfl]
    · rw [List.getElem?_set_ne hii]
      rcases h.page i hi (fun hh => hii hh.symm) with ⟨q, q1, q2, q3, q4, q5⟩ | ⟨q1, q2⟩
      · refine .inl ⟨q, q1, by omega, ?_, q4, ?_⟩
        · refine Decidable.byContradiction fun hc => hin ?_
          rw [show s + 1 = q + n by omega, Nat.add_mod_right, q4]
        · rw [if_neg (by omega)]; exact q5
      · refine .inr ⟨q1, fun q h1 h2 => ?_⟩
        by_cases hq : q = s
        · subst hq; exact hii
        · exact q2 q h1 (by omega)
  · rw [List.getElem?_set_ne (fun hh => hne hh.symm)]
    rcases h.page ((s + 1) % n) (Nat.mod_lt _ (by omega)) hne with ⟨q, q1, q2, q3, q4, q5⟩ | ⟨q1, q2⟩
    · refine ⟨_, q5, recB_len _, ?_, .inl ?_⟩
      all_goals
        have hq : q = s + 1 - n := by
          have h5 : (q + n) % n = (s + 1) % n := by rw [Nat.add_mod_right, q4]
          have := mod_apart h5 (by omega) (by omega)
          omega
        obtain ⟨g1, g2⟩ := h.good q q1 q2
      · rw [← drop58_last (recB_len _), recB_tail, g2, Int.toNat_natCast, hq]
      · rw [recB_tail, g2, Int.toNat_natCast, hq]
    · have hz : s + 1 - n = 0 := by
        refine Decidable.byContradiction fun hc => q2 (s + 1 - n) (by omega) (by omega) ?_
        have h5 : (s + 1 - n + n) % n = (s + 1) % n := by rw [show s + 1 - n + n = s + 1 by omega]
        rwa [Nat.add_mod_right] at h5
      refine ⟨_, q1, by simp [zpage], ?_, .inl ?_⟩
      · rw [hz]; decide
      · rw [hz]; decide

theorem SInv.torn {n : Nat} {ps : List (List UInt8)} {s k : Nat} {R : Nat → Rec} {r : Rec} {p : List UInt8} (h2 : 2 ≤ n) (h : SInv n ps s R) (hs : r.seq = s) (hp : ps[s % n]? = some p) (hk : k ≤ 63) : SInv n (ps.set (s % n) ((recB r).take k ++ p.drop k)) s R := by
  have hlt : s % n < n := Nat.mod_lt _ (by omega)
  refine ⟨by simp [h.len], h.pos, h.small, h.good, fun i hi hin => ?_, ?_⟩
  · rw [List.getElem?_set_ne (fun hh => hin hh.symm)]
    exact h.page i hi hin
  · refine ⟨_, by rw [List.getElem?_set_self (by rw [h.len]; exact hlt)], ?_⟩
    obtain ⟨p', hp', hl, hlast, hc⟩ := h.cur
    rw [hp] at hp'
    obtain rfl := Option.some.inj hp'
    have hrl := recB_len r
    have hh := recB_head r
    rw [hs, Int.toNat_natCast] at hh
    have htk : ((recB r).take k).length = k := by simp [hrl]; omega
    refine ⟨by simp [hrl, hl]; omega, ?_, ?_⟩
    · rw [List.getElem?_append_right (by omega), htk, List.getElem?_drop, show k + (63 - k) = 63 by omega]; exact hlast
    · by_cases hk2 : k ≤ 58
      · rcases hc with hc | hc
        · refine .inl ?_
          rw [List.drop_append, htk, List.drop_of_length_le (by omega), List.nil_append, List.drop_drop, show k + (58 - k) = 58 by omega]
          exact hc
        · refine .inr ?_
          apply List.ext_getElem?
          intro j
          have e1 := congrArg (fun l => l[j]?) hc
          have e2 := congrArg (fun l => l[j]?) hh
          simp only [List.getElem?_take] at e1 e2 ⊢
          by_cases hj : j < 6
          · rw [if_pos hj] at e1 e2 ⊢
            by_cases hjk : j < k
            · rw [List.getElem?_append_left (by omega), List.getElem?_take, if_pos hjk]; exact e2
            · rw [List.getElem?_append_right (by omega), htk, List.getElem?_drop, show k + (j - k) = j by omega]; exact e1
          · rw [if_neg hj] at e1 ⊢; exact e1
      · refine .inr ?_
        rw [List.take_append_of_le_length (by omega), List.take_take, show min 6 k = 6 by omega]
        exact hh
end Go.Abs

