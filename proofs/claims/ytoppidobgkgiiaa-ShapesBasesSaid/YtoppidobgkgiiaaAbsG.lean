/- Part of the abstract machine on which the proof stands: its values, code and their soundness against the model. -/
import Derived.Test.YtoppidobgkgiiaaAbsF
set_option linter.unusedVariables false
set_option linter.unusedSimpArgs false
namespace Go.Abs
open Go.RowKit

section
variable {P : Program} {J : Nat → Prop} {m : List Ent} {w : World} {h : List O}

/-- An object of the call's own that has no block yet. -/
theorem fine_noblk (hr : RS J h m w) (sz : Nat) : RS J (h ++ [.arr 1 sz []]) (m ++ [⟨1, sz, none, 0, 0⟩]) w ∧ (∀ n, Ev n J m w J (m ++ [⟨1, sz, none, 0, 0⟩]) w) ∧ Ml m (m ++ [⟨1, sz, none, 0, 0⟩]) :=
  ⟨RS.push hr _ _ (by simp) (fun _ _ => rfl) (Nat.le_refl _) ⟨rfl, rfl, by simp, rfl, rfl⟩, fun n => Ev.push _ (by simp) (fun _ _ => rfl) (Nat.le_refl _) rfl rfl rfl (Nat.le_refl _), Ml.app _ _⟩

theorem zeroCells_size (z : Array Value) (n : Nat) : (Builtin.zeroCells z n).size = n * z.size := by simp [Builtin.zeroCells]

theorem grown_bounds (w : World) (need old : Nat) (e : TypeId) (h : need ≤ 9223372036854775807) : need ≤ grownCap w need old e ∧ grownCap w need old e ≤ maxLen :=
  ⟨grownCap_ge w need old e, grownCap_le_maxLen w need old e (by simp only [maxLen]; omega)⟩

theorem flat_cells {R : V → Value → Prop} {sz : Nat} {els : List (List V)} {vs : List Value} (hf : Flat R sz els vs) (z : Array Value) :
    ∀ (i : Nat) (el : List V) (j : Nat) (x : V), els[i]? = some el → el[j]? = some x → ∃ cv, (vs.toArray ++ z)[i * sz + j]? = some cv ∧ R x cv := by
  intro i el j x hi hj
  obtain ⟨cv, h1, h2⟩ := hf.2.2 i el j x hi hj
  refine ⟨cv, ?_, h2⟩
  have hlt := (List.getElem?_eq_some_iff.1 h1).1
  rw [Array.getElem?_append_left (by simpa using hlt)]
  simpa using h1

theorem app_runs {X : Value} {t t' ty : TypeId} {r : Result Value} {X2 : Value} (h : (Builtin.append_ #[t, t'] ty #[X, X2]).run P w = r) :
    (do pure (.value (← Builtin.append_ #[t, t'] ty #[X, X2])) : Sem Next).run P w = r.andThen fun v w' => .ok (.value v) w' := by
  simp only [Sem.run_bind, h, Sem.run_pure]

/-- append onto a slice without capacity. -/
theorem fine_app_nil {t t' ty e e' : TypeId} {i : TypeInfo} {z : Value} (ht : P.underlying t = some (.slice e)) (ht' : P.underlying t' = some (.slice e')) (hi : P.info? e = some i) (hz : i.zero = some z) (hzs : z.cells.size = i.size)
    (hr : RS J h m w) {s : Value} (hs : RV J m w .nil s) {X : V} {x : Value} (hx : RV J m w X x) {els : List (List V)} (he : elsOf i.size h X = some els)
    (hb : els.length * i.bytes ≤ 140737488355328) (h63 : els.length ≤ 9223372036854775807) :
    Fine J m w (h ++ [.arr 1 i.size els]) (.own h.length 1 0 els.length) ((do pure (.value (← Builtin.append_ #[t, t'] ty #[s, x])) : Sem Next).run P w) := by
  obtain ⟨b, cap, vs, rfl, h1, h2, h3, h4⟩ := slice_flat hr hx he
  obtain ⟨a, rfl⟩ : ∃ a, s = .slice a 0 0 := by
    have : RD J w .nil s := hs
    cases this with
    | nil0 => exact ⟨_, rfl⟩
    | nil1 a => exact ⟨_, rfl⟩
  by_cases hn : els.length = 0
  · have hel : els = [] := List.eq_nil_of_length_eq_zero hn
    subst hel
    simp only [List.length_nil]
    rw [app_runs (run_append_none ht ht' hi a b 0 cap)]
    obtain ⟨h5, h6, h7⟩ := fine_noblk hr i.size
    refine ⟨_, w, J, _, .inl rfl, ⟨rfl, ⟨1, i.size, none, 0, 0⟩, by rw [← hr.len]; exact get_last _ _, ⟨Nat.le_refl _, Nat.le_refl _⟩, fun _ => ⟨rfl, rfl, ?_⟩⟩, h5, h6, h7⟩
    cases a with
    | none => exact .inl rfl
    | some a => exact .inr ⟨a, rfl⟩
  · have hrun := run_append_new (P := P) (w := w) (ty := ty) (c := cap) ht ht' hi hz (a := a) (b := b) (sLen := 0) (sCap := 0) (n := els.length) (olds := []) (news := vs) (by simp) (fun _ => rfl) (by simp)
      h3.1 (fun hb => (h2 hb).1) h4 (by omega) (by omega) (growslice_fits (by omega) (by simpa using hb))
    simp only [Nat.zero_add] at hrun
    rw [app_runs hrun]
    obtain ⟨hg1, hg2⟩ := grown_bounds w els.length 0 e (by omega)
    generalize hgc : grownCap w els.length 0 e = gc at *
    generalize hrow : ([] : List Value).toArray ++ vs.toArray ++ Builtin.zeroCells z.cells (gc - els.length) = row at *
    have hrs : row.size = gc * i.size := by
      rw [← hrow]
      simp only [Array.size_append, zeroCells_size, hzs, List.size_toArray, List.length_nil, h3.1, Nat.zero_add]; rw [← Nat.add_mul]; congr 1; omega
    have := fine_new hr (sz := i.size) (els := els) (w' := w.drew.alloc (.cells row e)) (c := row) (ty := e) (fz := (0, 0)) (cap := gc) h3.2.1
      rfl rfl rfl (by simp) (fun k hk => heap_alloc_old w.drew _ hk) (by simp) (heap_alloc_new w.drew _) hrs hg1 hg2 (by intro k _; simp)
      (by rw [← hrow]; simpa using flat_cells h3 (Builtin.zeroCells z.cells (gc - els.length)))
    exact ⟨_, _, J, _, .inl rfl, ⟨rfl, ⟨1, i.size, some w.heap.size, 0, gc⟩, by rw [← hr.len]; exact get_last _ _, ⟨Nat.le_refl _, Nat.le_refl _⟩, fun _ => ⟨0, _, rfl, ⟨by simpa using hg1, by simp⟩, by simp⟩⟩, this.1, this.2.1, this.2.2⟩

/-- append onto a slice of the call's own. -/
theorem fine_app_own {t t' ty e e' : TypeId} {i : TypeInfo} {z : Value} (ht : P.underlying t = some (.slice e)) (ht' : P.underlying t' = some (.slice e')) (hi : P.info? e = some i) (hz : i.zero = some z) (hzs : z.cells.size = i.size)
    (hr : RS J h m w) {id g off len : Nat} {s : Value} (hs : RV J m w (.own id g off len) s) {els : List (List V)} (ho : h[id]? = some (.arr g i.size els)) (hle : off + len ≤ els.length)
    {X : V} {x : Value} (hx : RV J m w X x) {news : List (List V)} (he : elsOf i.size h X = some news)
    (hb : (len + news.length) * i.bytes ≤ 140737488355328) (h63 : len + news.length ≤ 9223372036854775807) :
    Fine J m w (h.set id (.arr (g + 1) i.size ((els.drop off).take len ++ news))) (.own id (g + 1) 0 (len + news.length)) ((do pure (.value (← Builtin.append_ #[t, t'] ty #[s, x])) : Sem Next).run P w) := by
  obtain ⟨b, cap, vs, rfl, h1, h2, h3, h4⟩ := slice_flat hr hx he
  have he0 : elsOf i.size h (.own id g off len) = some ((els.drop off).take len) := by simp [elsOf, ho, hle]
  have hlen : ((els.drop off).take len).length = len := by simp; omega
  obtain ⟨a, scap, us, hsv, g1, g2, g3, g4⟩ := slice_flat hr hs he0
  rw [hlen] at hsv g1 g2
  obtain ⟨en, hen, hg, hsz, hsl, hobj⟩ := own_ok hr hs ho
  have hfl := Flat.append g3 h3
  have hidm : id < m.length := (List.getElem?_eq_some_iff.1 hen).1
  have hidh : id < h.length := (List.getElem?_eq_some_iff.1 ho).1
  have hgetn : ∀ x : Ent, (m.set id x)[id]? = some x := fun x => List.getElem?_set_self hidm
  have hg1 : 1 ≤ g := by obtain ⟨_, _, _, h3, _⟩ := hs; exact h3.1
  by_cases hroom : len + news.length ≤ scap
  · by_cases h0 : len + news.length = 0
    · -- nothing at all
      have hl0 : len = 0 := by omega
      have hn0 : news = [] := List.eq_nil_of_length_eq_zero (by omega)
      subst hn0
      subst hl0
      subst hsv
      simp only [List.length_nil, Nat.add_zero]
      rw [app_runs (run_append_none ht ht' hi a b scap cap)]
      -- the block, if there is one, stays with the new object
      refine ⟨_, w, J, m.set id ⟨g + 1, i.size, en.blk, en.base + off, en.cap - off⟩, .inl rfl, ⟨rfl, _, hgetn _, by simp, fun _ => ?_⟩, ?_, fun n => ?_, ?_⟩
      · unfold Ent.sl at hsl ⊢
        cases hb : en.blk with
        | none =>
          rw [hb] at hsl
          exact ⟨rfl, rfl, by simpa using hsl.2.2⟩
        | some B =>
          rw [hb] at hsl
          obtain ⟨o, cc, h5, h6, h7⟩ := hsl
          refine ⟨o, cc, ?_, by simp; omega, fun hlt => ?_⟩
          · simpa using h5
          · simp only [Nat.add_zero] at hlt ⊢
            rw [h7 (by omega), hsz]
      · refine RS.upd hr _ _ hen (by simp; omega) (by simp; omega) (fun B hB => ⟨.inl hB, (hr.dis id en B hen hB).2⟩) (fun _ _ _ => rfl) (Nat.le_refl _) ?_
        obtain ⟨_, _, o3, o4⟩ := hobj
        refine ⟨rfl, rfl, by simp, ?_⟩
        simp only
        cases hb : en.blk with
        | none => rw [hb] at o4; exact ⟨by simp, by have := o4.2; omega⟩
        | some B =>
          rw [hb] at o4
          obtain ⟨h5, h5', c, ty2, fz, h6, h7, h8, h9⟩ := o4
          have hoc : off ≤ en.cap := by
            unfold Ent.sl at hsl
            rw [hb] at hsl
            obtain ⟨_, _, _, h9, _⟩ := hsl
            omega
          exact ⟨by simp, by omega, c, ty2, fz, h6, by rw [h7]; congr 1; omega, h8, by simp⟩
      · exact Ev.upd _ hen (by simp; omega) (by simp; omega) (fun B hB => .inl hB) (fun _ _ _ => rfl) (Nat.le_refl _) rfl rfl rfl (Nat.le_refl _)
      · exact Ml.set hen (by simp; omega) (by simp; omega)
    · -- room in the block
      unfold Ent.sl at hsl
      cases hb : en.blk with
      | none =>
        rw [hb] at hsl
        obtain ⟨h5, h6, h7⟩ := hsl
        exfalso
        subst hsv
        rcases h7 with h7 | ⟨_, h7⟩ <;> simp at h7 <;> omega
      | some B =>
        rw [hb] at hsl
        obtain ⟨o, cc, h5, h6, h7⟩ := hsl
        subst hsv
        simp only [Value.slice.injEq] at h5
        obtain ⟨rfl, _, rfl⟩ := h5
        obtain ⟨_, _, o3, o4⟩ := hobj
        rw [hb] at o4
        obtain ⟨p1, p2, c, ty2, fz, p3, p4, p5, p6⟩ := o4
        have ho' : o = (en.base + off) * i.size := by rw [h7 (by omega), hsz]
        subst ho'
        have hvl : vs.length = news.length * i.size := h3.1
        have hfit : (en.base + off) * i.size + len * i.size + vs.length ≤ c.size := by
          rw [hvl, p4, ← Nat.add_mul, ← Nat.add_mul]
          exact Nat.mul_le_mul_right _ (by omega)
        have hone : ∀ v ∈ vs, v.oneCell' = true := by
          intro v hv
          obtain ⟨q, hq⟩ := List.getElem?_of_mem hv
          have hql := (List.getElem?_eq_some_iff.1 hq).1
          rw [hvl] at hql
          have hszp : 0 < i.size := by
            rcases Nat.eq_zero_or_pos i.size with h | h
            · rw [h] at hql; simp at hql
            · exact h
          have q1 : q / i.size < news.length := Nat.div_lt_of_lt_mul (by rw [Nat.mul_comm]; exact hql)
          have q2 : q % i.size < i.size := Nat.mod_lt _ hszp
          have q3 : q / i.size * i.size + q % i.size = q := by rw [Nat.mul_comm]; exact Nat.div_add_mod q i.size
          have q4 := h3.2.1 _ _ (List.getElem?_eq_getElem q1)
          obtain ⟨cv, q5, q6⟩ := h3.2.2 _ _ (q % i.size) _ (List.getElem?_eq_getElem q1) (List.getElem?_eq_getElem (by omega))
          rw [q3, hq] at q5
          rw [Option.some.inj q5]
          exact RC.one q6
        have hrun := run_append_fit (P := P) (w := w) (ty := ty) (c := cap) ht ht' hi (sLen := len) (sCap := scap) (n := news.length) (b := b) hvl (fun hb => (h2 hb).1) h4 hroom p3 hfit hone p5
        rw [app_runs hrun]
        have hwB : B < w.heap.size := (hr.dis id en B hen hb).2
        have hoth : ∀ k, k < w.heap.size → en.blk ≠ some k → (w.setRow B (c.toList.take ((en.base + off) * i.size + len * i.size) ++ vs ++ c.toList.drop ((en.base + off) * i.size + len * i.size + vs.length)).toArray).heap[k]? = w.heap[k]? := fun k _ hk => setRow_other w B k _ (fun hkb => hk (by rw [hb, hkb]))
        have hJ : ∀ k, J k → (w.setRow B (c.toList.take ((en.base + off) * i.size + len * i.size) ++ vs ++ c.toList.drop ((en.base + off) * i.size + len * i.size + vs.length)).toArray).heap[k]? = w.heap[k]? := fun k hk => hoth k (hr.jlt k hk) (fun hkb => (hr.dis id en k hen hkb).1 hk)
        have hsz2 : w.heap.size ≤ (w.setRow B (c.toList.take ((en.base + off) * i.size + len * i.size) ++ vs ++ c.toList.drop ((en.base + off) * i.size + len * i.size + vs.length)).toArray).heap.size := by simp [World.setRow]
        refine ⟨_, _, J, m.set id ⟨g + 1, i.size, some B, en.base + off, en.cap - off⟩, .inl rfl, ⟨rfl, _, hgetn _, ⟨by simp, Nat.le_refl _⟩, fun _ => ⟨_, _, rfl, ⟨by simpa using hroom, by simp; omega⟩, fun _ => by simp⟩⟩, ?_, fun n => ?_, ?_⟩
        · refine RS.upd hr _ _ hen (by simp; omega) (by simp; omega) (fun B' hB' => ⟨.inl (by simpa using hb.trans hB'), ?_⟩) hoth hsz2 ?_
          · simp at hB'; omega
          · refine ⟨rfl, rfl, hfl.2.1, ?_⟩
            simp only
            refine ⟨by rw [List.length_append, hlen]; omega, by omega, _, ty2, fz, setRow_heap w B c _ ty2 fz p3, ?_, ?_, ?_⟩
            · simp only [List.size_toArray, List.length_append, List.length_take, List.length_drop, Array.length_toList]
              rw [show en.base + off + (en.cap - off) = en.base + en.cap by omega, ← p4]
              omega
            · intro k hk
              apply p5
              simp only [List.size_toArray, List.length_append, List.length_take, List.length_drop, Array.length_toList] at hk
              omega
            · intro k el j y hk hj
              have hml : Ml m (m.set id ⟨g + 1, i.size, some B, en.base + off, en.cap - off⟩) := Ml.set hen (by simp; omega) (by simp; omega)
              have hsp := fun q => list_splice_get (cs := c.toList) (ys := vs) (j := (en.base + off) * i.size + len * i.size) (k := q) (by simpa using hfit)
              have hel := hfl.2.1 k el hk
              have hjl : j < i.size := by rw [← hel]; exact (List.getElem?_eq_some_iff.1 hj).1
              have hpos : (en.base + off + k) * i.size + j = (en.base + off) * i.size + (k * i.size + j) := by rw [Nat.add_mul]; omega
              rw [List.getElem?_toArray, hsp]
              by_cases hkl : k < len
              · have hkm := Nat.mul_le_mul_right i.size (show k + 1 ≤ len from hkl)
                rw [Nat.add_mul, Nat.one_mul] at hkm
                rw [if_pos (by omega)]
                rw [List.getElem?_append_left (by omega), List.getElem?_take, if_pos hkl, List.getElem?_drop] at hk
                obtain ⟨cv, q1, q2⟩ := p6 _ el j y hk hj
                refine ⟨cv, ?_, RC.mono (fun _ h => h) hJ hml q2⟩
                rw [Array.getElem?_toList, ← q1]
                congr 1
                rw [← Nat.add_assoc]
              · have hk2 : k < len + news.length := by
                  have := (List.getElem?_eq_some_iff.1 hk).1
                  rw [List.length_append, hlen] at this; exact this
                rw [List.getElem?_append_right (by omega), hlen] at hk
                obtain ⟨cv, q1, q2⟩ := h3.2.2 _ el j y hk hj
                have hkk : k * i.size = len * i.size + (k - len) * i.size := by rw [← Nat.add_mul]; congr 1; omega
                have hql := (List.getElem?_eq_some_iff.1 q1).1
                rw [if_neg (by omega), if_pos (by omega)]
                refine ⟨cv, ?_, RC.mono (fun _ h => h) hJ hml q2⟩
                rw [← q1]
                congr 1
                omega
        · exact Ev.upd _ hen (by simp; omega) (by simp; omega) (fun B' hB' => .inl (by simpa using hb.trans hB')) hoth hsz2 rfl rfl rfl (Nat.le_refl _)
        · exact Ml.set hen (by simp; omega) (by simp; omega)
  · -- a new block
    subst hsv
    have hrun := run_append_new (P := P) (w := w) (ty := ty) (c := cap) ht ht' hi hz (a := a) (b := b) (sLen := len) (sCap := scap) (n := news.length) (olds := us) (news := vs) (by rw [g3.1, hlen]) (fun ha => (g2 ha).1) g4
      h3.1 (fun hb => (h2 hb).1) h4 (by omega) (by omega) (growslice_fits (by omega) hb)
    rw [app_runs hrun]
    obtain ⟨hgc1, hg2⟩ := grown_bounds w (len + news.length) scap e (by omega)
    generalize hgc : grownCap w (len + news.length) scap e = gc at *
    generalize hrow : us.toArray ++ vs.toArray ++ Builtin.zeroCells z.cells (gc - (len + news.length)) = row at *
    have hrs : row.size = gc * i.size := by
      rw [← hrow]
      simp only [Array.size_append, zeroCells_size, hzs, List.size_toArray, g3.1, h3.1, hlen]
      rw [← Nat.add_mul, ← Nat.add_mul]; congr 1; omega
    have hold : ∀ k, k < w.heap.size → (w.drew.alloc (.cells row e)).heap[k]? = w.heap[k]? := fun k hk => heap_alloc_old w.drew _ hk
    refine ⟨_, _, J, m.set id ⟨g + 1, i.size, some w.heap.size, 0, gc⟩, .inl rfl, ⟨rfl, _, hgetn _, ⟨by simp, Nat.le_refl _⟩, fun _ => ⟨0, _, rfl, ⟨by simpa using hgc1, by simp⟩, by simp⟩⟩, ?_, fun n => ?_, ?_⟩
    · refine RS.upd hr _ _ hen (by simp; omega) (by simp; omega) (fun B' hB' => ?_) (fun k hk _ => hold k hk) (by simp) ?_
      · simp at hB'; simp; omega
      · refine ⟨rfl, rfl, hfl.2.1, ?_⟩
        simp only
        refine ⟨by rw [List.length_append, hlen]; exact hgc1, by omega, row, e, (0, 0), heap_alloc_new w.drew _, by simpa using hrs, by intro k _; simp, fun k el j y hk hj => ?_⟩
        obtain ⟨cv, q1, q2⟩ := flat_cells hfl (Builtin.zeroCells z.cells (gc - (len + news.length))) k el j y hk hj
        refine ⟨cv, ?_, RC.mono (fun _ h => h) (fun k hk => hold k (hr.jlt k hk)) (Ml.set hen (by simp; omega) (by simp; omega)) q2⟩
        rw [← hrow]
        simpa using q1
    · exact Ev.upd _ hen (by simp; omega) (by simp; omega) (fun B' hB' => .inr (by simp at hB'; omega)) (fun k hk _ => hold k hk) (by simp) rfl rfl rfl (by simp)
    · exact Ml.set hen (by simp; omega) (by simp; omega)
end
end Go.Abs
