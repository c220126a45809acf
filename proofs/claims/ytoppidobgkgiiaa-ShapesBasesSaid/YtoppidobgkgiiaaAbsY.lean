/- Part of the abstract machine on which the proof stands: its values, code and their soundness against the model. -/
import Derived.Test.YtoppidobgkgiiaaAbsW
import Derived.ProofKit
import Derived.OpenShut
set_option linter.unusedVariables false
set_option linter.unusedSimpArgs false
namespace Go.Abs
open Go.RowKit

/- WHAT A STATEMENT's READING OF AN ARGUMENT SAYS OF ITS VALUES. -/

/-- The shape of one cell of data. -/
inductive Sch where
  | b
  | i (k : IntKind)
  | s
  | sl (el : List Sch)

mutual
/-- A value of that shape. -/
def Sch.ok : Sch → V → Prop
  | .b, v => ∃ x, v = .b x
  | .i k, v => ∃ n, v = .i k n ∧ k.min ≤ n ∧ n ≤ k.max
  | .s, v => ∃ l, v = .s l ∧ l.length ≤ 9223372036854775807
  | .sl el, v => ∃ els, v = .l el.length els ∧ els.length ≤ 9223372036854775807 ∧ ∀ e ∈ els, okL el e
def okL : List Sch → List V → Prop
  | [], vs => vs = []
  | c :: cs, vs => ∃ v r, vs = v :: r ∧ c.ok v ∧ okL cs r
end

theorem okL_len : ∀ {ss : List Sch} {vs : List V}, okL ss vs → vs.length = ss.length
  | [], vs, h => by rw [okL] at h; subst h; rfl
  | c :: cs, vs, h => by rw [okL] at h; obtain ⟨v, r, rfl, _, h2⟩ := h; simp [okL_len h2]

theorem okL_one {c : Sch} {v : V} (h : c.ok v) : okL [c] [v] := by
  rw [okL]; exact ⟨v, [], rfl, h, by rw [okL]⟩

theorem okL_append : ∀ {ss ts : List Sch} {vs us : List V}, okL ss vs → okL ts us → okL (ss ++ ts) (vs ++ us)
  | [], ts, vs, us, h, k => by rw [okL] at h; subst h; exact k
  | c :: cs, ts, vs, us, h, k => by
    rw [okL] at h
    obtain ⟨v, r, rfl, h1, h2⟩ := h
    rw [List.cons_append, okL]
    exact ⟨v, r ++ us, rfl, h1, okL_append h2 k⟩

def schFs (P : Program) (g : TypeId → Option (List Sch)) : List Field → Nat → Option (List Sch)
  | [], _ => some []
  | f :: fs, acc => match g f.type with
    | some ss => if f.offset = acc ∧ P.cellsOf f.type = ss.length then (schFs P g fs (acc + ss.length)).map (ss ++ ·) else none
    | none => none

def schOf (P : Program) : Nat → TypeId → Option (List Sch)
  | 0, _ => none
  | d + 1, T => match P.underlying T with
    | some .bool => some [.b]
    | some (.int k) => some [.i k]
    | some .string => some [.s]
    | some (.slice e) => match schOf P d e with
      | some el => if P.cellsOf e = el.length ∧ 0 < el.length then some [.sl el] else none
      | none => none
    | some (.struct fs) => match schFs P (schOf P d) fs.toList 0 with
      | some ss => if P.cellsOf T = ss.length then some ss else none
      | none => none
    | some (.array n e) => match schOf P d e with
      | some el => if P.cellsOf e = el.length ∧ P.cellsOf T = n * el.length then some (List.replicate n el).flatten else none
      | none => none
    | _ => none

section
variable {P : Program} {w : World} {H : Type} {enc : TypeId × Value → H} {sp : Nat → Bool} {held : Bool}

def ReadAt (P : Program) (w : World) {H : Type} (enc : TypeId × Value → H) (sp : Nat → Bool) (held : Bool) (d : Nat) : Prop :=
  ∀ T ss, schOf P d T = some ss → ∀ fuel cs r, DataW.trod enc P w 0 sp held fuel T cs = some r → ∃ vs, Pw (RD (fun k => k < w.heap.size) w) vs cs ∧ okL ss vs

theorem schFs_ok {d : Nat} (ih : ReadAt P w enc sp held d) {fuel : Nat} {cs : List Value} : ∀ (fs : List Field) (acc : Nat) (ss : List Sch), schFs P (schOf P d) fs acc = some ss →
    (∀ f ∈ fs, ∃ y, DataW.trod enc P w 0 sp held fuel f.type ((cs.drop f.offset).take (P.cellsOf f.type)) = some y) → ∃ vs, Pw (RD (fun k => k < w.heap.size) w) vs ((cs.drop acc).take ss.length) ∧ okL ss vs
  | [], acc, ss, h, _ => by
    simp only [schFs, Option.some.injEq] at h
    subst h
    exact ⟨[], by simpa using Pw.nil, by rw [okL]⟩
  | f :: fs, acc, ss, h, hy => by
    simp only [schFs] at h
    split at h
    · rename_i s1 hs1
      split at h
      · rename_i hc
        obtain ⟨rfl, hc⟩ := hc
        simp only [Option.map_eq_some_iff] at h
        obtain ⟨s2, hs2, rfl⟩ := h
        obtain ⟨y, hy1⟩ := hy f (by simp)
        rw [hc] at hy1
        obtain ⟨v1, hp1, ho1⟩ := ih f.type s1 hs1 fuel _ y hy1
        obtain ⟨v2, hp2, ho2⟩ := schFs_ok ih fs _ s2 hs2 (fun g hg => hy g (by simp [hg]))
        refine ⟨v1 ++ v2, ?_, okL_append ho1 ho2⟩
        have : (cs.drop f.offset).take (s1 ++ s2).length = (cs.drop f.offset).take s1.length ++ (cs.drop (f.offset + s1.length)).take s2.length := by
          rw [List.length_append, List.take_add, List.drop_drop]
        rw [this]
        exact hp1.append hp2
      · simp at h
    · simp at h

theorem arr_ok {d : Nat} (ih : ReadAt P w enc sp held d) {fuel : Nat} {cs : List Value} {e : TypeId} {el : List Sch} (he : schOf P d e = some el) : ∀ k : Nat,
    (∀ i, i < k → ∃ y, DataW.trod enc P w 0 sp held fuel e ((cs.drop (i * el.length)).take el.length) = some y) → ∃ vs, Pw (RD (fun k => k < w.heap.size) w) vs (cs.take (k * el.length)) ∧ okL (List.replicate k el).flatten vs
  | 0, _ => ⟨[], by simpa using Pw.nil, by simp [okL]⟩
  | k + 1, hy => by
    obtain ⟨v1, hp1, ho1⟩ := arr_ok ih he k (fun i hi => hy i (by omega))
    obtain ⟨y, hy1⟩ := hy k (by omega)
    obtain ⟨v2, hp2, ho2⟩ := ih e el he fuel _ y hy1
    refine ⟨v1 ++ v2, ?_, ?_⟩
    · rw [Nat.add_mul, Nat.one_mul, List.take_add]
      exact hp1.append hp2
    · rw [List.replicate_succ', List.flatten_append]
      simpa using okL_append ho1 ho2

theorem pick_list {α β : Type} {R : Nat → α → Prop} : ∀ n : Nat, (∀ i, i < n → ∃ x, R i x) → ∃ xs : List α, xs.length = n ∧ ∀ i x, xs[i]? = some x → R i x
  | 0, _ => ⟨[], rfl, by simp⟩
  | n + 1, h => by
    obtain ⟨xs, h1, h2⟩ := pick_list (β := β) n (fun i hi => h i (by omega))
    obtain ⟨x, hx⟩ := h n (by omega)
    refine ⟨xs ++ [x], by simp [h1], fun i y hy => ?_⟩
    by_cases hi : i < xs.length
    · rw [List.getElem?_append_left hi] at hy; exact h2 i y hy
    · rw [List.getElem?_append_right (by omega)] at hy
      have : i - xs.length = 0 := by
        rcases Nat.eq_zero_or_pos (i - xs.length) with h0 | h0
        · exact h0
        · rw [show i - xs.length = (i - xs.length - 1) + 1 by omega] at hy; simp at hy
      rw [this] at hy
      simp at hy; subst hy
      have : i = n := by omega
      subst this; exact hx

theorem readAt_all : ∀ d, ReadAt P w enc sp held d
  | 0 => fun T ss h => by simp [schOf] at h
  | d + 1 => by
    intro T ss hs fuel cs r hr
    have ih : ReadAt P w enc sp held d := readAt_all d
    simp only [schOf] at hs
    split at hs <;> rename_i hu
    · obtain rfl := Option.some.inj hs
      obtain ⟨x, rfl, _⟩ := DataW.trod_bool hu hr
      exact ⟨[.b x], Pw.cons (.b x) Pw.nil, okL_one (by rw [Sch.ok]; exact ⟨x, rfl⟩)⟩
    · rename_i k
      obtain rfl := Option.some.inj hs
      obtain ⟨n, rfl, _, hw⟩ := DataW.trod_int hu hr
      simp only [Lit.wf, Bool.and_eq_true, decide_eq_true_eq] at hw
      exact ⟨[.i k n], Pw.cons (.i k n) Pw.nil, okL_one (by rw [Sch.ok]; exact ⟨n, rfl, hw.1, hw.2⟩)⟩
    · obtain rfl := Option.some.inj hs
      obtain ⟨x, rfl, _, hl⟩ := DataW.trod_string hu hr
      refine ⟨[.s x.data.toList], Pw.cons ?_ Pw.nil, ?_⟩
      · have := RD.s (J := fun k => k < w.heap.size) (w := w) x.data.toList
        simpa using this
      · simp only [okL, Sch.ok]
        refine ⟨_, _, rfl, ⟨_, rfl, ?_⟩, rfl⟩
        have : x.data.toList.length = x.size := Array.length_toList
        rw [this]; exact hl
    · rename_i e
      split at hs
      · rename_i el hel
        split at hs
        · rename_i hc
          obtain ⟨hc, hpos⟩ := hc
          obtain rfl := Option.some.inj hs
          rcases DataW.trod_slice hu hr with ⟨rfl, _⟩ | ⟨a, len, cap, elems, rest, n, _, rfl, _, _, hlc, hcm, hel2, hget, _, _⟩
          · exact ⟨[.l el.length []], Pw.cons (.l0 _) Pw.nil, by simp [okL, Sch.ok]⟩
          · rw [hc] at hget
            have hex : ∀ i, i < len → ∃ (u : List V), ∃ csi, w.cells? 0 (a.add (i * el.length)) el.length = some csi ∧ Pw (RD (fun k => k < w.heap.size) w) u csi ∧ okL el u := by
              intro i hi
              have h1 := hget i hi
              obtain ⟨y, hy⟩ : ∃ y, elems[i]? = some y := ⟨_, List.getElem?_eq_getElem (by omega)⟩
              rw [hy] at h1
              simp only [Option.bind_eq_some_iff] at h1
              obtain ⟨csi, hcsi, hyi⟩ := h1
              obtain ⟨u, hu1, hu2⟩ := ih e el hel n csi y hyi
              exact ⟨u, csi, hcsi, hu1, hu2⟩
            obtain ⟨els, hlen, hels⟩ := pick_list (β := Unit) len hex
            refine ⟨[.l el.length els], Pw.cons ?_ Pw.nil, ?_⟩
            · by_cases h0 : len = 0
              · have : els = [] := List.eq_nil_of_length_eq_zero (by omega)
                subst this
                subst h0
                exact .l1 _ _ _
              · have hblk : a.block < w.heap.size := by
                  obtain ⟨u, csi, hcsi, _⟩ := hex 0 (by omega)
                  have := World.cells?_block hcsi hpos
                  rwa [Addr.add_block] at this
                have key : ∀ i u j, els[i]? = some u → j < el.length → ∃ c, w.cell? (a.add (i * el.length + j)) = some c ∧ ∀ v, u[j]? = some v → RD (fun k => k < w.heap.size) w v c := by
                  intro i u j hi hj
                  obtain ⟨csi, hcsi, hp, _⟩ := hels i u hi
                  obtain ⟨_, hl1, hg⟩ := World.cells?_some hcsi
                  have h2 := hg j hj
                  rw [Addr.add_add] at h2
                  obtain ⟨c, hcj⟩ : ∃ c, csi[j]? = some c := ⟨_, List.getElem?_eq_getElem (by omega)⟩
                  exact ⟨c, by rw [h2, hcj], fun v hv => hp.2 j v c hv hcj⟩
                have := RD.l (J := fun k => k < w.heap.size) (w := w) el.length els a cap (fun i j => (w.cell? (a.add (i * el.length + j))).getD undef) hblk (by omega)
                  (fun i u hi => by obtain ⟨_, _, _, ho⟩ := hels i u hi; exact okL_len ho)
                  (fun i j hi hj => by
                    obtain ⟨u, hu⟩ : ∃ u, els[i]? = some u := ⟨_, List.getElem?_eq_getElem hi⟩
                    obtain ⟨c, hc1, _⟩ := key i u j hu hj
                    rw [hc1]; rfl)
                  (fun i u j v hi hv => by
                    have hj : j < el.length := by
                      obtain ⟨_, _, _, ho⟩ := hels i u hi
                      rw [← okL_len ho]
                      exact (List.getElem?_eq_some_iff.1 hv).1
                    obtain ⟨c, hc1, hc2⟩ := key i u j hi hj
                    rw [hc1]; exact hc2 v hv)
                rw [hlen] at this
                exact this
            · simp only [okL, Sch.ok]
              refine ⟨_, _, rfl, ⟨els, rfl, ?_, fun u hu => ?_⟩, rfl⟩
              · have : cap ≤ 9223372036854775807 := by simpa [maxLen] using hcm
                omega
              · obtain ⟨i, hi, rfl⟩ := List.getElem_of_mem hu
                obtain ⟨_, _, _, ho⟩ := hels i _ (List.getElem?_eq_getElem hi)
                exact ho
        · simp at hs
      · simp at hs
    · rename_i fs
      split at hs
      · rename_i s1 hs1
        split at hs
        · rename_i hc
          obtain rfl := Option.some.inj hs
          obtain ⟨xs, n, _, _, hl, hxl, hget⟩ := DataW.trod_struct hu hr
          obtain ⟨vs, hp, ho⟩ := schFs_ok ih (fuel := n) (cs := cs) fs.toList 0 s1 hs1 (fun f hf => by
            obtain ⟨i, hi, rfl⟩ := List.getElem_of_mem hf
            have hi' : i < fs.size := by simpa using hi
            have h1 := hget i fs[i] (Array.getElem?_eq_getElem hi')
            refine ⟨xs[i]'(by omega), ?_⟩
            rw [Array.getElem_toList, h1]
            exact List.getElem?_eq_getElem _)
          rw [List.drop_zero, ← hc, ← hl, List.take_length] at hp
          exact ⟨vs, hp, ho⟩
        · simp at hs
      · simp at hs
    · rename_i n e
      split at hs
      · rename_i el hel
        split at hs
        · rename_i hc
          obtain ⟨hc1, hc2⟩ := hc
          obtain rfl := Option.some.inj hs
          obtain ⟨xs, m, _, _, hl, hxl, hget⟩ := DataW.trod_array hu hr
          obtain ⟨vs, hp, ho⟩ := arr_ok ih (fuel := m) (cs := cs) hel n (fun i hi => by
            have h1 := hget i hi
            rw [hc1] at h1
            refine ⟨xs[i]'(by omega), ?_⟩
            rw [h1]
            exact List.getElem?_eq_getElem _)
          rw [← hc2, ← hl, List.take_length] at hp
          exact ⟨vs, hp, ho⟩
        · simp at hs
      · simp at hs
    · simp at hs
end
end Go.Abs
