/- Part of the abstract machine on which the proof stands: its values, code and their soundness against the model. -/
import Derived.Test.YtoppidobgkgiiaaAbsI
set_option linter.unusedVariables false
set_option linter.unusedSimpArgs false
namespace Go.Abs
open Go.RowKit

section
variable {P : Program} {J : Nat → Prop} {m : List Ent} {w : World} {h : List O}

theorem fine_mki {t e : TypeId} {i : TypeInfo} {z : Value} (ht : P.underlying t = some (.slice e)) (hi : P.info? e = some i) (hz : i.zero = some z) {zs : List V} (hzs : ∀ (J : Nat → Prop) m w, Pw (RC J m w) zs z.cells.toList) (hsz : zs.length = i.size)
    (hr : RS J h m w) {k : Int} {x : Value} (hx : RV J m w (.i .i64 k) x) (h0 : 0 ≤ k) (hb : k * i.bytes ≤ 140737488355328) (h63 : k ≤ 9223372036854775807) (hd : zs.all V.isD = true) :
    Fine J m w h (.l i.size (List.replicate k.toNat zs)) ((do pure (.value (← Instr.makeSlice t x x)) : Sem Next).run P w) := by
  have := int_of hx; subst this
  have hrun := run_make (P := P) w t e i z ht hi hz .i64 .i64 k k h0 (Int.le_refl _) (by rw [Int.mul_comm]; omega) h63
  have hrun' : (do pure (.value (← Instr.makeSlice t (.int .i64 k) (.int .i64 k))) : Sem Next).run P w = .ok (.value (.slice (some ⟨w.heap.size, 0, none⟩) k.toNat k.toNat)) (w.alloc (.cells (madeCells z.cells (k.toNat * i.size)) e)) := by
    simp only [Sem.run_bind, hrun, Result.andThen_ok, Sem.run_pure]
  rw [hrun']
  have h1 := Flat.replicate (hzs J m w) hsz k.toNat
  generalize hrow : madeCells z.cells (k.toNat * i.size) = row at *
  have hel : (List.replicate k.toNat zs).length = k.toNat := by simp
  have hold : ∀ k, k < w.heap.size → (w.alloc (.cells row e)).heap[k]? = w.heap[k]? := fun k hk => heap_alloc_old w _ hk
  have hJ : ∀ k, J k → (fun k => J k ∨ k = w.heap.size) k := fun k hk => .inl hk
  have hJn : ∀ k, (fun k => J k ∨ k = w.heap.size) k → J k ∨ w.heap.size ≤ k := fun k hk => hk.imp id (fun h => by omega)
  refine ⟨_, _, fun k => J k ∨ k = w.heap.size, m, .inl rfl, ?_, RS.same hr hJ hJn (fun k hk => hk.elim (fun hk => Nat.lt_of_lt_of_le (hr.jlt k hk) (by simp)) (fun hk => by simp; omega)) hold (by simp), fun n => Ev.same hJ hJn hold (by simp) rfl rfl rfl (by simp), Ml.refl m⟩
  have hdd : ∀ (a : Nat) (el : List V) (b : Nat) (x : V), (List.replicate k.toNat zs)[a]? = some el → el[b]? = some x → x.isD = true := by
    intro a el b x q1 q2
    rw [List.getElem?_replicate] at q1
    split at q1
    case isFalse => simp at q1
    obtain rfl := Option.some.inj q1
    exact List.all_eq_true.1 hd x (List.mem_of_getElem? q2)
  have := RD.l (J := fun k => J k ∨ k = w.heap.size) (w := w.alloc (.cells row e)) i.size (List.replicate k.toNat zs) ⟨w.heap.size, 0, none⟩ k.toNat (fun a b => (row[a * i.size + b]?).getD undef) (.inr rfl) (by simp) h1.2.1
    (fun a b ha hb => by
      have hlt : a * i.size + b < row.size := by
        have := h1.1
        rw [hel] at this ha
        simp at this
        rw [this]
        have := Nat.mul_le_mul_right i.size (show a + 1 ≤ k.toNat from ha)
        rw [Nat.add_mul, Nat.one_mul] at this; omega
      rw [Addr.add_lit, Nat.zero_add]
      have hnew := heap_alloc_new w (.cells row e)
      simp only [World.cell?, hnew]
      simp [hlt])
    (fun a el b x q1 q2 => by
      obtain ⟨cv, q3, q4⟩ := h1.2.2 a el b x q1 q2
      have q5 : row[a * i.size + b]? = some cv := by simpa using q3
      simp only [q5, Option.getD_some]
      exact (RD_of_RC (hdd a el b x q1 q2) q4).mono hJ (fun k hk => hold k (hr.jlt k hk)))
  rw [hel] at this
  exact this

theorem Flat.take {R : V → Value → Prop} {sz : Nat} {els : List (List V)} {vs : List Value} (hf : Flat R sz els vs) (n : Nat) : Flat R sz (els.take n) (vs.take (n * sz)) := by
  refine ⟨?_, fun i el hi => ?_, fun i el j x hi hj => ?_⟩
  · simp only [List.length_take, hf.1]
    rcases Nat.le_total n els.length with hle | hle
    · rw [Nat.min_eq_left hle, Nat.min_eq_left (Nat.mul_le_mul_right _ hle)]
    · rw [Nat.min_eq_right hle, Nat.min_eq_right (Nat.mul_le_mul_right _ hle)]
  · rw [List.getElem?_take] at hi
    split at hi
    case isFalse => simp at hi
    exact hf.2.1 i el hi
  · rw [List.getElem?_take] at hi
    split at hi
    case isFalse => simp at hi
    rename_i hin
    obtain ⟨cv, h1, h2⟩ := hf.2.2 i el j x hi hj
    have hjl : j < sz := by rw [← hf.2.1 i el hi]; exact (List.getElem?_eq_some_iff.1 hj).1
    have := Nat.mul_le_mul_right sz (show i + 1 ≤ n from hin)
    rw [Nat.add_mul, Nat.one_mul] at this
    exact ⟨cv, by rw [List.getElem?_take, if_pos (by omega)]; exact h1, h2⟩

/-- The run of 'copy', what is read being known. -/
theorem run_copy' {dT sT ty e : TypeId} {sz : Nat} (hd : P.underlying dT = some (.slice e)) (he : (P.info? e).map (·.size) = some sz) {base : Option Addr} {dLen dCap sLen : Nat} {src : Value} (hlen : (Builtin.lenOf src).run P w = .ok sLen w)
    {cells : List Value} (hc : (Builtin.firstCells sz (Nat.min sLen dLen) src).run P w = .ok cells.toArray w) {w' : World} (hst : (match base with | some a => storeCells a cells | none => pure ()).run P w = .ok () w') :
    (do pure (.value (← Builtin.copy_ #[dT, sT] ty #[.slice base dLen dCap, src])) : Sem Next).run P w = .ok (.value (.int .i64 (Nat.min sLen dLen : Nat))) w' := by
  cases base with
  | none =>
    simp only [Sem.run_pure] at hst
    obtain ⟨_, rfl⟩ : True ∧ w = w' := ⟨trivial, by simpa using hst⟩
    simp [Builtin.copy_, run_underlying hd, run_sizeOf' he, hlen, hc, goInt]
  | some a =>
    simp only at hst
    simp [Builtin.copy_, run_underlying hd, run_sizeOf' he, hlen, hc, hst, goInt]

theorem fine_copy_core {dT sT ty e : TypeId} {sz : Nat} (hd : P.underlying dT = some (.slice e)) (he : (P.info? e).map (·.size) = some sz) (hr : RS J h m w) {id g off len : Nat} {x : Value} (hx : RV J m w (.own id g off len) x)
    {els : List (List V)} (ho : h[id]? = some (.arr g sz els)) (hle : off + len ≤ els.length) {src : Value} {news : List (List V)} {vs : List Value} (hlen : (Builtin.lenOf src).run P w = .ok news.length w)
    (hfl : Flat (RC J m w) sz (news.take len) vs) (hc : (Builtin.firstCells sz (Nat.min news.length len) src).run P w = .ok vs.toArray w) :
    Fine J m w (h.set id (.arr g sz (els.take off ++ news.take len ++ els.drop (off + min news.length len)))) (.i .i64 (min news.length len : Nat)) ((do pure (.value (← Builtin.copy_ #[dT, sT] ty #[x, src])) : Sem Next).run P w) := by
  obtain ⟨en, hen, hg, hsz, hsl, hobj⟩ := own_ok hr hx ho
  obtain ⟨_, _, o3, o4⟩ := hobj
  have hidm : id < m.length := (List.getElem?_eq_some_iff.1 hen).1
  have hset : m.set id en = m := by
    apply List.ext_getElem?
    intro i
    by_cases hi : id = i
    · subst hi; rw [List.getElem?_set_self hidm, hen]
    · rw [List.getElem?_set_ne hi]
  have hsetO : ∀ o, h[id]? = some o → h.set id o = h := by
    intro o hoo
    apply List.ext_getElem?
    intro i
    by_cases hi : id = i
    · subst hi; rw [List.getElem?_set_self (List.getElem?_eq_some_iff.1 ho).1, hoo]
    · rw [List.getElem?_set_ne hi]
  unfold Ent.sl at hsl
  cases hbk : en.blk with
  | none =>
    rw [hbk] at hsl o4
    obtain ⟨q1, q2, q3⟩ := hsl
    subst q1; subst q2
    have hels : els = [] := o4.1
    have hm : Nat.min news.length 0 = 0 := Nat.min_zero _
    have hm2 : min news.length 0 = 0 := Nat.min_zero _
    have hvs : vs = [] := List.eq_nil_of_length_eq_zero (by rw [hfl.1]; simp)
    subst hvs
    have hobj2 : h.set id (.arr g sz (els.take 0 ++ news.take 0 ++ els.drop (0 + min news.length 0))) = h := by
      rw [hels]; simp only [List.take_zero, List.drop_nil, List.append_nil]
      exact hsetO _ (by rw [ho, hels])
    rw [hobj2, hm2]
    rw [hm] at hc
    rcases q3 with rfl | ⟨a, rfl⟩
    · rw [run_copy' hd he hlen (by rw [hm]; exact hc) (base := none) (w' := w) rfl, hm]
      exact Fine.pure hr (rv_i _ _)
    · rw [run_copy' hd he hlen (by rw [hm]; exact hc) (base := some a) (w' := w) (by simp [storeCells]), hm]
      exact Fine.pure hr (rv_i _ _)
  | some B =>
    rw [hbk] at hsl o4
    obtain ⟨o, cc, rfl, q1, q2⟩ := hsl
    obtain ⟨p1, p2, c, ty2, fz, p3, p4, p5, p6⟩ := o4
    have hvl : vs.length = min news.length len * sz := by rw [hfl.1, List.length_take, Nat.min_comm]
    have hfit : 0 < vs.length → o = (en.base + off) * sz := by
      intro h0
      rw [q2 (by
        rcases Nat.lt_or_ge 0 cc with h | h
        · exact h
        · have h00 : len = 0 := by omega
          exfalso
          rw [h00, Nat.min_zero, Nat.zero_mul] at hvl
          omega), hsz]
    have hmx : min news.length len ≤ len := Nat.min_le_right _ _
    have hone : ∀ v ∈ vs, v.oneCell' = true := by
      intro v hv
      obtain ⟨q, hq⟩ := List.getElem?_of_mem hv
      have hql := (List.getElem?_eq_some_iff.1 hq).1
      rw [hfl.1] at hql
      have hszp : 0 < sz := by
        rcases Nat.eq_zero_or_pos sz with h | h
        · rw [h] at hql; simp at hql
        · exact h
      have r1 : q / sz < (news.take len).length := Nat.div_lt_of_lt_mul (by rw [Nat.mul_comm]; exact hql)
      have r2 : q % sz < sz := Nat.mod_lt _ hszp
      have r3 : q / sz * sz + q % sz = q := by rw [Nat.mul_comm]; exact Nat.div_add_mod q sz
      have r4 := hfl.2.1 _ _ (List.getElem?_eq_getElem r1)
      obtain ⟨cv, r5, r6⟩ := hfl.2.2 _ _ (q % sz) _ (List.getElem?_eq_getElem r1) (List.getElem?_eq_getElem (by omega))
      rw [r3, hq] at r5
      rw [Option.some.inj r5]
      exact RC.one r6
    have hmulm : min news.length len * sz ≤ len * sz := Nat.mul_le_mul_right _ hmx
    have hcap : (en.base + off) * sz + len * sz ≤ c.size := by
      rw [p4, ← Nat.add_mul]; exact Nat.mul_le_mul_right _ (by omega)
    -- the world behind it
    obtain ⟨row, hrow, hrun⟩ : ∃ row : List Value, row = c.toList.take ((en.base + off) * sz) ++ vs ++ c.toList.drop ((en.base + off) * sz + vs.length) ∧ (storeCells ⟨B, o, none⟩ vs).run P w = .ok () (w.setRow B row.toArray) := by
      refine ⟨_, rfl, ?_⟩
      rcases Nat.eq_zero_or_pos vs.length with h0 | h0
      · have : vs = [] := List.eq_nil_of_length_eq_zero h0
        subst this
        simp only [storeCells, Sem.run_pure, List.append_nil, List.length_nil, Nat.add_zero, List.take_append_drop, Array.toArray_toList]
        rw [setRow_self w B c ty2 fz p3]
      · have := run_storeCells_fz (P := P) B o ty2 fz vs 0 c w p3 (by rw [hfit h0]; omega) hone p5
        rw [hfit h0] at this ⊢
        simpa using this
    rw [run_copy' hd he hlen hc (base := some ⟨B, o, none⟩) (w' := w.setRow B row.toArray) hrun]
    have hoth : ∀ k, k < w.heap.size → en.blk ≠ some k → (w.setRow B row.toArray).heap[k]? = w.heap[k]? := fun k _ hk => setRow_other w B k _ (fun hkb => hk (by rw [hbk, hkb]))
    have hJ : ∀ k, J k → (w.setRow B row.toArray).heap[k]? = w.heap[k]? := fun k hk => hoth k (hr.jlt k hk) (fun hkb => (hr.dis id en k hen hkb).1 hk)
    have hs2 : w.heap.size ≤ (w.setRow B row.toArray).heap.size := by simp [World.setRow]
    have hrl : row.length = c.size := by rw [hrow]; simp; omega
    refine ⟨_, _, J, m, .inl rfl, rv_i _ _, ?_, fun n => ?_, Ml.refl m⟩
    · have := RS.upd hr (w' := w.setRow B row.toArray) en (.arr g sz (els.take off ++ news.take len ++ els.drop (off + min news.length len))) hen (Nat.le_refl _) (fun _ => rfl) (fun B' hB' => ⟨.inl hB', by have := (hr.dis id en B' hen hB').2; omega⟩) hoth hs2 ?_
      · rw [hset] at this; exact this
      · rw [hset]
        have hl1 : (els.take off).length = off := by simp; omega
        have hl2 : (news.take len).length = min news.length len := by rw [List.length_take, Nat.min_comm]
        refine ⟨hg, hsz, fun i el hi => ?_, ?_⟩
        · rw [List.append_assoc] at hi
          by_cases h1 : i < off
          · rw [List.getElem?_append_left (by omega), List.getElem?_take, if_pos h1] at hi
            exact o3 i el hi
          · rw [List.getElem?_append_right (by omega), hl1] at hi
            by_cases h2 : i - off < min news.length len
            · rw [List.getElem?_append_left (by omega)] at hi
              exact hfl.2.1 _ el hi
            · rw [List.getElem?_append_right (by omega), List.getElem?_drop] at hi
              exact o3 _ el hi
        · rw [hbk]
          refine ⟨by simp only [List.length_append, hl1, hl2, List.length_drop]; omega, p2, _, ty2, fz, setRow_heap w B c _ ty2 fz p3, by simp [hrl, p4], by intro k hk; exact p5 k (by simpa [hrl] using hk), fun i el j y hi hj => ?_⟩
          have hsp := fun q => list_splice_get (cs := c.toList) (ys := vs) (j := (en.base + off) * sz) (k := q) (by simp; omega)
          rw [List.getElem?_toArray, hrow, hsp]
          have hmono : ∀ v cv, RC J m w v cv → RC J m (w.setRow B row.toArray) v cv := fun v cv hq => RC.mono (fun _ h => h) hJ (Ml.refl m) hq
          rw [hrow] at hmono
          have hpos : (en.base + i) * sz + j = en.base * sz + i * sz + j := by rw [Nat.add_mul]
          have hbo : (en.base + off) * sz = en.base * sz + off * sz := by rw [Nat.add_mul]
          rw [List.append_assoc] at hi
          by_cases h1 : i < off
          · rw [List.getElem?_append_left (by omega), List.getElem?_take, if_pos h1] at hi
            have hjl : j < sz := by rw [← o3 i el hi]; exact (List.getElem?_eq_some_iff.1 hj).1
            have := Nat.mul_le_mul_right sz (show i + 1 ≤ off from h1)
            rw [Nat.add_mul, Nat.one_mul] at this
            obtain ⟨cv, r1, r2⟩ := p6 i el j y hi hj
            rw [if_pos (by omega)]
            exact ⟨cv, by rw [Array.getElem?_toList]; exact r1, hmono _ _ r2⟩
          · rw [List.getElem?_append_right (by omega), hl1] at hi
            have hio : i * sz = off * sz + (i - off) * sz := by rw [← Nat.add_mul]; congr 1; omega
            by_cases h2 : i - off < min news.length len
            · rw [List.getElem?_append_left (by omega)] at hi
              obtain ⟨cv, r1, r2⟩ := hfl.2.2 _ el j y hi hj
              have := (List.getElem?_eq_some_iff.1 r1).1
              rw [if_neg (by omega), if_pos (by omega)]
              exact ⟨cv, by rw [← r1]; congr 1; omega, hmono _ _ r2⟩
            · rw [List.getElem?_append_right (by omega), List.getElem?_drop, hl2] at hi
              rw [show off + min news.length len + (i - off - min news.length len) = i by omega] at hi
              obtain ⟨cv, r1, r2⟩ := p6 i el j y hi hj
              have := Nat.mul_le_mul_right sz (show min news.length len ≤ i - off by omega)
              rw [if_neg (by omega), if_neg (by omega)]
              exact ⟨cv, by rw [Array.getElem?_toList]; exact r1, hmono _ _ r2⟩
    · have := Ev.upd (n := n) (J := J) (w := w) (w' := w.setRow B row.toArray) en hen (Nat.le_refl _) (fun _ => rfl) (fun B' hB' => .inl hB') hoth hs2 rfl rfl rfl (Nat.le_refl _)
      rw [hset] at this; exact this

theorem fine_copy {dT sT ty e : TypeId} {sz : Nat} (hd : P.underlying dT = some (.slice e)) (he : (P.info? e).map (·.size) = some sz) (hr : RS J h m w) {id g off len : Nat} {x : Value} (hx : RV J m w (.own id g off len) x)
    {els : List (List V)} (ho : h[id]? = some (.arr g sz els)) (hle : off + len ≤ els.length) {Y : V} {y : Value} (hy : RV J m w Y y) {news : List (List V)} (hn : elsOf sz h Y = some news) :
    Fine J m w (h.set id (.arr g sz (els.take off ++ news.take len ++ els.drop (off + min news.length len)))) (.i .i64 (min news.length len : Nat)) ((do pure (.value (← Builtin.copy_ #[dT, sT] ty #[x, y])) : Sem Next).run P w) := by
  obtain ⟨b, cap, vs, rfl, h1, h2, h3, h4⟩ := slice_flat hr hy hn
  refine fine_copy_core (vs := vs.take (len * sz)) hd he hr hx ho hle (by simp [Builtin.lenOf]) (h3.take len) ?_
  have hmin : (Nat.min news.length len) * sz = min (len * sz) vs.length := by
    rw [h3.1]
    show min news.length len * sz = _
    rcases Nat.le_total news.length len with hh | hh
    · rw [Nat.min_eq_left hh, Nat.min_eq_right (Nat.mul_le_mul_right _ hh)]
    · rw [Nat.min_eq_right hh, Nat.min_eq_left (Nat.mul_le_mul_right _ hh)]
  refine run_firstCells_any (by rw [List.length_take, hmin]) (fun hb => ?_) (fun a' ha j v hj => ?_)
  · have := (h2 hb).1
    show min news.length len = 0
    omega
  · rw [List.getElem?_take] at hj
    split at hj
    case isFalse => simp at hj
    exact h4 a' ha j v hj

theorem fine_copy_s {dT sT ty e : TypeId} (hd : P.underlying dT = some (.slice e)) (he : (P.info? e).map (·.size) = some 1) (hr : RS J h m w) {id g off len : Nat} {x : Value} (hx : RV J m w (.own id g off len) x)
    {els : List (List V)} (ho : h[id]? = some (.arr g 1 els)) (hle : off + len ≤ els.length) {l : List UInt8} {y : Value} (hy : RV J m w (.s l) y) :
    Fine J m w (h.set id (.arr g 1 (els.take off ++ (l.map byteEl).take len ++ els.drop (off + min (l.map byteEl).length len)))) (.i .i64 (min (l.map byteEl).length len : Nat)) ((do pure (.value (← Builtin.copy_ #[dT, sT] ty #[x, y])) : Sem Next).run P w) := by
  have := str_of hy; subst this
  refine fine_copy_core (vs := (l.take len).map fun b => .int .u8 b.toNat) hd he hr hx ho hle (by simp [Builtin.lenOf, size_mk]) ?_ ?_
  · refine ⟨by simp, fun i el hi => ?_, fun i el j y hi hj => ?_⟩
    · rw [List.getElem?_take] at hi
      split at hi
      case isFalse => simp at hi
      simp only [List.getElem?_map, Option.map_eq_some_iff] at hi
      obtain ⟨b, _, rfl⟩ := hi; rfl
    · rw [List.getElem?_take] at hi
      split at hi
      case isFalse => simp at hi
      rename_i hlt
      simp only [List.getElem?_map, Option.map_eq_some_iff] at hi
      obtain ⟨b, hb, rfl⟩ := hi
      cases j with
      | succ j => simp [byteEl] at hj
      | zero =>
        simp [byteEl] at hj
        subst hj
        refine ⟨.int .u8 b.toNat, ?_, RC_of_RD (.i _ _)⟩
        simp [List.getElem?_take, hlt, hb]
  · have : ((ByteArray.mk l.toArray).extract 0 (Nat.min (l.map byteEl).length len)).data = (l.take len).toArray := by
      apply Array.ext'
      simp [ByteArray.data_extract, List.extract_eq_take_drop]
      exact Nat.min_comm _ _
    simp [Builtin.firstCells, this]
    try (first | omega | exact Nat.min_comm _ _)

theorem minmax_ok {mx : Bool} : ∀ (vs : List V) (xs : List Value) (r : V), Pw (RV J m w) vs xs → minmax mx vs = some r →
    ∃ k n, r = .i k n ∧ (match xs with | [] => (stuck "" : Sem Value) | x :: rest => rest.foldlM (if mx then Builtin.max2 else Builtin.min2) x).run P w = .ok (.int k n) w
  | [], _, _, _, h => by simp [minmax] at h
  | [X], xs, r, hp, h => by
    cases X <;> simp [minmax, minGo] at h
    subst h
    cases xs with
    | nil => have := hp.1; simp at this
    | cons x xs =>
      have := hp.1; simp at this; subst this
      have := int_of hp.head; subst this
      exact ⟨_, _, rfl, by simp⟩
  | X :: Y :: rest, xs, r, hp, h => by
    cases X <;> cases Y <;> simp only [minmax, minGo] at h <;> try (simp at h; done)
    rename_i k a k' b
    split at h
    case isFalse => simp at h
    rename_i hk
    subst hk
    cases xs with
    | nil => have := hp.1; simp at this
    | cons x xs =>
      cases xs with
      | nil => have := hp.1; simp at this
      | cons y xs =>
        have := int_of hp.head; subst this
        have := int_of hp.tail.head; subst this
        obtain ⟨k2, n2, rfl, h2⟩ := minmax_ok (.i k (if mx then (if b > a then b else a) else (if b < a then b else a)) :: rest) (.int k (if mx then (if b > a then b else a) else (if b < a then b else a)) :: xs) r (Pw.cons (rv_i _ _) hp.tail.tail) h
        refine ⟨k2, n2, rfl, ?_⟩
        simp only [List.foldlM_cons, Sem.run_bind]
        simp only at h2
        cases mx
        · simp only [Bool.false_eq_true, if_false, Builtin.min2, Sem.run_pure, Result.andThen_ok] at h2 ⊢
          exact h2
        · simp only [if_true, Builtin.max2, Sem.run_pure, Result.andThen_ok] at h2 ⊢
          exact h2
termination_by vs => vs.length

theorem fine_mx {tys : Array TypeId} {ty : TypeId} (hr : RS J h m w) {vs : List V} {xs : Array Value} (hp : Pw (RV J m w) vs xs.toList) {r : V} (hs : minmax true vs = some r) :
    Fine J m w h r ((do pure (.value (← Builtin.max_ tys ty xs)) : Sem Next).run P w) := by
  obtain ⟨k, n, rfl, h1⟩ := minmax_ok (P := P) vs xs.toList r hp hs
  have hrun : (Builtin.max_ tys ty xs).run P w = .ok (.int k n) w := by
    unfold Builtin.max_
    cases hx : xs.toList with
    | nil => rw [hx] at h1; simp at h1
    | cons x rest => rw [hx] at h1; simpa using h1
  simp only [Sem.run_bind, hrun, Result.andThen_ok, Sem.run_pure]
  exact Fine.pure hr (rv_i _ _)

theorem fine_mn {tys : Array TypeId} {ty : TypeId} (hr : RS J h m w) {vs : List V} {xs : Array Value} (hp : Pw (RV J m w) vs xs.toList) {r : V} (hs : minmax false vs = some r) :
    Fine J m w h r ((do pure (.value (← Builtin.min_ tys ty xs)) : Sem Next).run P w) := by
  obtain ⟨k, n, rfl, h1⟩ := minmax_ok (P := P) vs xs.toList r hp hs
  have hrun : (Builtin.min_ tys ty xs).run P w = .ok (.int k n) w := by
    unfold Builtin.min_
    cases hx : xs.toList with
    | nil => rw [hx] at h1; simp at h1
    | cons x rest => rw [hx] at h1; simpa using h1
  simp only [Sem.run_bind, hrun, Result.andThen_ok, Sem.run_pure]
  exact Fine.pure hr (rv_i _ _)
end
end Go.Abs
