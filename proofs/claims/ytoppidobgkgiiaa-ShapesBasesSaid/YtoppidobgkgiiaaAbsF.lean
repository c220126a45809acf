/- Part of the abstract machine on which the proof stands: its values, code and their soundness against the model. -/
import Derived.Test.YtoppidobgkgiiaaAbsE
import Derived.Laws.BytesArg
set_option linter.unusedVariables false
set_option linter.unusedSimpArgs false
namespace Go.Abs
open Go.RowKit

section
variable {P : Program} {J : Nat → Prop} {m : List Ent} {w : World} {h : List O}

/-- Rows' cells, one behind the other. -/
def flatC (n sz : Nat) (cs : Nat → Nat → Value) : List Value := (List.range (n * sz)).map fun q => cs (q / sz) (q % sz)

theorem flatC_len (n sz : Nat) (cs : Nat → Nat → Value) : (flatC n sz cs).length = n * sz := by simp [flatC]

theorem flatC_get {n sz : Nat} {cs : Nat → Nat → Value} {i j : Nat} (hi : i < n) (hj : j < sz) : (flatC n sz cs)[i * sz + j]? = some (cs i j) := by
  have h1 : i * sz + j < n * sz := by
    have := Nat.mul_le_mul_right sz (show i + 1 ≤ n from hi)
    rw [Nat.add_mul, Nat.one_mul] at this; omega
  have h2 : (i * sz + j) / sz = i := by
    rw [Nat.mul_comm, Nat.mul_add_div (by omega), Nat.div_eq_of_lt hj, Nat.add_zero]
  have h3 : (i * sz + j) % sz = j := by
    rw [Nat.mul_comm, Nat.mul_add_mod, Nat.mod_eq_of_lt hj]
  simp [flatC, h1, h2, h3]

theorem flatC_cell {n sz : Nat} {cs : Nat → Nat → Value} {a : Addr} (hc : ∀ i j, i < n → j < sz → w.cell? (a.add (i * sz + j)) = some (cs i j)) :
    ∀ q v, (flatC n sz cs)[q]? = some v → w.cell? (a.add q) = some v := by
  intro q v hq
  have hlt := (List.getElem?_eq_some_iff.1 hq).1
  rw [flatC_len] at hlt
  have hsz : 0 < sz := by
    rcases Nat.eq_zero_or_pos sz with h | h
    · subst h; simp at hlt
    · exact h
  have h1 : q / sz < n := Nat.div_lt_of_lt_mul (by rw [Nat.mul_comm]; exact hlt)
  have h2 : q % sz < sz := Nat.mod_lt _ hsz
  have h3 := hc _ _ h1 h2
  have h4 : q / sz * sz + q % sz = q := by rw [Nat.mul_comm]; exact Nat.div_add_mod q sz
  rw [h4] at h3
  have h5 := flatC_get (n := n) (cs := cs) h1 h2
  rw [h4, hq] at h5
  rw [h3]; exact h5.symm

/-- Rows against cells. -/
def Flat (R : V → Value → Prop) (sz : Nat) (els : List (List V)) (vs : List Value) : Prop :=
  vs.length = els.length * sz ∧ (∀ (i : Nat) (el : List V), els[i]? = some el → el.length = sz) ∧
    ∀ (i : Nat) (el : List V) (j : Nat) (x : V), els[i]? = some el → el[j]? = some x → ∃ cv, vs[i * sz + j]? = some cv ∧ R x cv

theorem Flat.nil {R : V → Value → Prop} {sz : Nat} : Flat R sz [] [] := ⟨by simp, by simp, by simp⟩

theorem Flat.imp {R R' : V → Value → Prop} {sz : Nat} {els : List (List V)} {vs : List Value} (hf : Flat R sz els vs) (hr : ∀ v c, R v c → R' v c) : Flat R' sz els vs :=
  ⟨hf.1, hf.2.1, fun i el j x h1 h2 => let ⟨cv, h3, h4⟩ := hf.2.2 i el j x h1 h2; ⟨cv, h3, hr _ _ h4⟩⟩

theorem Flat.append {R : V → Value → Prop} {sz : Nat} {els els' : List (List V)} {vs vs' : List Value} (h1 : Flat R sz els vs) (h2 : Flat R sz els' vs') : Flat R sz (els ++ els') (vs ++ vs') := by
  refine ⟨by simp [h1.1, h2.1, Nat.add_mul], fun i el hi => ?_, fun i el j x hi hj => ?_⟩
  · by_cases hlt : i < els.length
    · rw [List.getElem?_append_left hlt] at hi; exact h1.2.1 i el hi
    · rw [List.getElem?_append_right (by omega)] at hi; exact h2.2.1 _ el hi
  · by_cases hlt : i < els.length
    · rw [List.getElem?_append_left hlt] at hi
      obtain ⟨cv, h3, h4⟩ := h1.2.2 i el j x hi hj
      refine ⟨cv, ?_, h4⟩
      rw [List.getElem?_append_left (List.getElem?_eq_some_iff.1 h3).1, h3]
    · rw [List.getElem?_append_right (by omega)] at hi
      obtain ⟨cv, h3, h4⟩ := h2.2.2 _ el j x hi hj
      refine ⟨cv, ?_, h4⟩
      rw [List.getElem?_append_right (by rw [h1.1]; have := Nat.mul_le_mul_right sz (show els.length ≤ i by omega); omega), h1.1, ← h3]
      congr 1
      have : i * sz = els.length * sz + (i - els.length) * sz := by rw [← Nat.add_mul]; congr 1; omega
      omega

theorem Flat.replicate {R : V → Value → Prop} {sz : Nat} {el : List V} {vs : Array Value} (hp : Pw R el vs.toList) (hl : el.length = sz) (n : Nat) :
    Flat R sz (List.replicate n el) (madeCells vs (n * sz)).toList := by
  have hvl : vs.size = sz := by rw [← hl]; simpa using hp.1.symm
  refine ⟨by simp [size_madeCells], fun i e hi => ?_, fun i e j x hi hj => ?_⟩
  · rw [List.getElem?_replicate] at hi
    split at hi
    case isFalse => simp at hi
    rw [← Option.some.inj hi]; exact hl
  · rw [List.getElem?_replicate] at hi
    split at hi
    case isFalse => simp at hi
    rename_i hin
    obtain rfl := Option.some.inj hi
    obtain ⟨cv, h1, h2⟩ := hp.get hj
    refine ⟨cv, ?_, h2⟩
    have hjl := (List.getElem?_eq_some_iff.1 hj).1
    rw [hl] at hjl
    have hlt : i * sz + j < n * sz := by
      have := Nat.mul_le_mul_right sz (show i + 1 ≤ n from hin)
      rw [Nat.add_mul, Nat.one_mul] at this; omega
    have hmod : (i * sz + j) % sz = j := by rw [Nat.mul_comm, Nat.mul_add_mod, Nat.mod_eq_of_lt hjl]
    have h3 : vs[j]? = some cv := by simpa using h1
    have h4 : vs[j]! = cv := by rw [getElem!_def, h3]
    simp [madeCells, hlt, hvl, hmod, h4]

theorem slice_flat {X : V} {x : Value} {sz : Nat} {els : List (List V)} (hr : RS J h m w) (hx : RV J m w X x) (he : elsOf sz h X = some els) :
    ∃ a cap vs, x = .slice a els.length cap ∧ els.length ≤ cap ∧ (a = none → els.length = 0 ∧ cap = 0) ∧ Flat (RC J m w) sz els vs ∧ (∀ a', a = some a' → ∀ j v, vs[j]? = some v → w.cell? (a'.add j) = some v) := by
  obtain ⟨a, cap, rfl, h1, h2, h3, h4⟩ := slice_shape hr hx he
  cases a with
  | none =>
    obtain ⟨h5, h6⟩ := h2 rfl
    have : els = [] := List.eq_nil_of_length_eq_zero h5
    subst this
    exact ⟨none, cap, [], rfl, h1, h2, Flat.nil, by simp⟩
  | some a =>
    obtain ⟨cs, h5, h6⟩ := h4 a rfl
    refine ⟨some a, cap, flatC els.length sz cs, rfl, h1, by simp, ⟨flatC_len _ _ _, h3, fun i el j x hi hj => ?_⟩, fun a' ha => ?_⟩
    · have hil := (List.getElem?_eq_some_iff.1 hi).1
      have hjl := (List.getElem?_eq_some_iff.1 hj).1
      rw [h3 i el hi] at hjl
      exact ⟨_, flatC_get hil hjl, h6 i el j x hi hj⟩
    · obtain rfl := Option.some.inj ha
      exact flatC_cell h5

theorem run_firstCells_any {sz n : Nat} {a : Option Addr} {len cap : Nat} {vs : List Value} (hl : vs.length = n * sz) (ha : a = none → n = 0) (hc : ∀ a', a = some a' → ∀ j v, vs[j]? = some v → w.cell? (a'.add j) = some v) :
    (Builtin.firstCells sz n (.slice a len cap)).run P w = .ok vs.toArray w := by
  cases a with
  | none =>
    have := ha rfl
    subst this
    have : vs = [] := List.eq_nil_of_length_eq_zero (by simpa using hl)
    subst this
    exact run_firstCells_none w _ _ _ _
  | some a => exact run_firstCells_some w sz n a len cap vs hl (hc a rfl)

theorem run_append_new {t t' ty e e' : TypeId} {i : TypeInfo} {z : Value} (ht : P.underlying t = some (.slice e)) (ht' : P.underlying t' = some (.slice e')) (hi : P.info? e = some i) (hz : i.zero = some z)
    {a b : Option Addr} {sLen sCap n c : Nat} {olds news : List Value} (hlo : olds.length = sLen * i.size) (hao : a = none → sLen = 0) (hco : ∀ a', a = some a' → ∀ j v, olds[j]? = some v → w.cell? (a'.add j) = some v)
    (hln : news.length = n * i.size) (hbn : b = none → n = 0) (hcn : ∀ a', b = some a' → ∀ j v, news[j]? = some v → w.cell? (a'.add j) = some v)
    (hg : sCap < sLen + n) (h63 : ((sLen + n : Nat) : Int) ≤ 9223372036854775807) (hfit : Builtin.nextslicecap (sLen + n) sCap * i.bytes ≤ 281474976710656) :
    (Builtin.append_ #[t, t'] ty #[.slice a sLen sCap, .slice b n c]).run P w =
      .ok (.slice (some ⟨w.heap.size, 0, none⟩) (sLen + n) (grownCap w (sLen + n) sCap e))
        (w.drew.alloc (.cells (olds.toArray ++ news.toArray ++ Builtin.zeroCells z.cells (grownCap w (sLen + n) sCap e - (sLen + n))) e)) := by
  have hno : ¬ sLen + n ≤ sCap := by omega
  have h63' : ¬ (9223372036854775807 < (sLen : Int) + (n : Int)) := by omega
  have hfit' : ¬ (Builtin.nextslicecap (sLen + n) sCap * i.bytes > 281474976710656) := by omega
  have hf := run_firstCells_any (P := P) (w := w.drew) (len := n) (cap := c) hln hbn (fun a' ha j v hj => hcn a' ha j v hj)
  have hfo := run_firstCells_any (P := P) (w := w.drew) (len := sLen) (cap := sCap) hlo hao (fun a' ha j v hj => hco a' ha j v hj)
  simp [Builtin.append_, run_underlying ht, run_underlying ht', sizeOf, typeInfo, zeroValue, hi, hz, Builtin.lenOf, hno, h63', hfit', Question.forced, hf, hfo, newRow, grownCap]
  congr 2
  apply Array.ext'
  simp

theorem run_append_fit {t t' ty e e' : TypeId} {i : TypeInfo} (ht : P.underlying t = some (.slice e)) (ht' : P.underlying t' = some (.slice e')) (hi : P.info? e = some i)
    {B o sLen sCap n c : Nat} {b : Option Addr} {news : List Value} {cur : Array Value} {fz : Nat × Nat} {ty' : TypeId}
    (hln : news.length = n * i.size) (hbn : b = none → n = 0) (hcn : ∀ a', b = some a' → ∀ j v, news[j]? = some v → w.cell? (a'.add j) = some v)
    (hg : sLen + n ≤ sCap) (hB : w.heap[B]? = some (.cells cur ty' fz)) (hfit : o + sLen * i.size + news.length ≤ cur.size) (h1 : ∀ v ∈ news, v.oneCell' = true) (hz : ∀ k, k < cur.size → ¬ (fz.1 ≤ k ∧ k < fz.2)) :
    (Builtin.append_ #[t, t'] ty #[.slice (some ⟨B, o, none⟩) sLen sCap, .slice b n c]).run P w =
      .ok (.slice (some ⟨B, o, none⟩) (sLen + n) sCap) (w.setRow B (cur.toList.take (o + sLen * i.size) ++ news ++ cur.toList.drop (o + sLen * i.size + news.length)).toArray) := by
  have hf := run_firstCells_any (P := P) (w := w) (len := n) (cap := c) hln hbn hcn
  have hst := run_storeCells_fz (P := P) B (o + sLen * i.size) ty' fz news 0 cur w hB (by omega) h1 hz
  simp only [Nat.add_zero] at hst
  simp [Builtin.append_, run_underlying ht, run_underlying ht', sizeOf, typeInfo, hi, Builtin.lenOf, hg, hf, Addr.add_lit, hst]

theorem run_append_none {t t' ty e e' : TypeId} {i : TypeInfo} (ht : P.underlying t = some (.slice e)) (ht' : P.underlying t' = some (.slice e')) (hi : P.info? e = some i) (a b : Option Addr) (sCap c : Nat) :
    (Builtin.append_ #[t, t'] ty #[.slice a 0 sCap, .slice b 0 c]).run P w = .ok (.slice a 0 sCap) w := by
  have hf : ∀ w, (Builtin.firstCells i.size 0 (.slice b 0 c)).run P w = .ok #[] w := fun w => by
    cases b with
    | none => exact run_firstCells_none w _ _ _ _
    | some b => exact run_firstCells_some w _ 0 b 0 c [] (by simp) (by simp)
  cases a <;> simp [Builtin.append_, run_underlying ht, run_underlying ht', sizeOf, typeInfo, hi, Builtin.lenOf, hf, storeCells]
end
end Go.Abs
