/- Part of the abstract machine on which the proof stands: its values, code and their soundness against the model. -/
import Derived.Test.YtoppidobgkgiiaaAbsG
set_option linter.unusedVariables false
set_option linter.unusedSimpArgs false
namespace Go.Abs
open Go.RowKit

section
variable {P : Program} {J : Nat → Prop} {m : List Ent} {w : World} {h : List O}

theorem fine_mks {t e : TypeId} {i : TypeInfo} {z : Value} (ht : P.underlying t = some (.slice e)) (hi : P.info? e = some i) (hz : i.zero = some z) {zs : List V} (hzs : Pw (RC J m w) zs z.cells.toList) (hsz : zs.length = i.size)
    (hr : RS J h m w) {k : Int} {x : Value} (hx : RV J m w (.i .i64 k) x) (h0 : 0 ≤ k) (hb : k * i.bytes ≤ 140737488355328) (h63 : k ≤ 9223372036854775807) :
    Fine J m w (h ++ [.arr 1 i.size (List.replicate k.toNat zs)]) (.own h.length 1 0 k.toNat) ((do pure (.value (← Instr.makeSlice t x x)) : Sem Next).run P w) := by
  have := int_of hx; subst this
  have hrun := run_make (P := P) w t e i z ht hi hz .i64 .i64 k k h0 (Int.le_refl _) (by rw [Int.mul_comm]; omega) h63
  have hrun' : (do pure (.value (← Instr.makeSlice t (.int .i64 k) (.int .i64 k))) : Sem Next).run P w = .ok (.value (.slice (some ⟨w.heap.size, 0, none⟩) k.toNat k.toNat)) (w.alloc (.cells (madeCells z.cells (k.toNat * i.size)) e)) := by
    simp only [Sem.run_bind, hrun, Result.andThen_ok, Sem.run_pure]
  rw [hrun']
  have hf := Flat.replicate hzs hsz k.toNat
  have hlen : (List.replicate k.toNat zs).length = k.toNat := by simp
  have := fine_new hr (sz := i.size) (els := List.replicate k.toNat zs) (w' := w.alloc (.cells (madeCells z.cells (k.toNat * i.size)) e)) (c := madeCells z.cells (k.toNat * i.size)) (ty := e) (fz := (0, 0)) (cap := k.toNat) hf.2.1
    rfl rfl rfl (by simp) (fun k hk => heap_alloc_old w _ hk) (by simp) (heap_alloc_new w _) (size_madeCells _ _) (by simp) (by simp only [maxLen]; omega) (by intro k _; simp)
    (fun a el b x h1 h2 => by
      obtain ⟨cv, h3, h4⟩ := hf.2.2 a el b x h1 h2
      exact ⟨cv, by simpa using h3, h4⟩)
  exact ⟨_, _, J, _, .inl rfl, ⟨rfl, ⟨1, i.size, some w.heap.size, 0, k.toNat⟩, by rw [← hr.len]; exact get_last _ _, ⟨Nat.le_refl _, Nat.le_refl _⟩, fun _ => ⟨0, _, rfl, by simp, by simp⟩⟩, this.1, this.2.1, this.2.2⟩

theorem fine_s2b {S D e : TypeId} {d : TypeDesc} (hS : P.underlying S = some d) (hD : P.underlying D = some (.slice e)) (he : P.underlying e = some (.int .u8))
    (hr : RS J h m w) {l : List UInt8} {x : Value} (hx : RV J m w (.s l) x) (hl : l.length ≤ 9223372036854775807) :
    Fine J m w (h ++ [.arr 1 1 (l.map byteEl)]) (.own h.length 1 0 l.length) ((do pure (.value (← convert S D x)) : Sem Next).run P w) := by
  have := str_of hx; subst this
  obtain ⟨hg1, hg2⟩ := grown_bounds w l.length 0 e hl
  generalize hgc : grownCap w l.length 0 e = gc at *
  have hgc' : (Question.appendCap l.length 0 e).cut (w.tape w.drawn (Question.appendCap l.length 0 e)) = gc := hgc
  generalize hrow : (List.map (fun b : UInt8 => Value.int .u8 (b.toNat : Int)) l).toArray ++ Array.replicate (gc - l.length) (Value.int .u8 0) = row
  have hrs : row.size = gc := by rw [← hrow]; simp; omega
  have hrun : (do pure (.value (← convert S D (.string ⟨l.toArray⟩))) : Sem Next).run P w =
      .ok (.value (.slice (some ⟨w.heap.size, 0, none⟩) l.length gc)) ((w.drew.alloc (.cells row e)).freeze ⟨w.heap.size, gc, none⟩ 1) := by
    have hsh : (w.drew.alloc (.cells row e)).shape? w.heap.size = some (e, gc) := by
      have := heap_alloc_new w.drew (.cells row e)
      simp only [World.shape?]
      rw [show w.heap.size = w.drew.heap.size from rfl, this]
      simp [hrs]
    have hmap : Array.map (fun b : UInt8 => Value.int .u8 (b.toNat : Int)) l.toArray = (List.map (fun b : UInt8 => Value.int .u8 (b.toNat : Int)) l).toArray := by simp
    have hcv : convert S D (.string ⟨l.toArray⟩) = (do
      let ds ← underlying S
      let dd ← underlying D
      match ds, dd, Value.string ⟨l.toArray⟩ with
      | _, .slice e, .string s =>
        match ← underlying e with
        | .int .u8 => Conv.stringToBytes e s
        | .int .i32 => Conv.stringToRunes e s
        | _ => stuck "Convert: string to a slice of what?"
      | _, _, _ => convert S D (.string ⟨l.toArray⟩)) ∨ True := .inr trivial
    have h1 : (convert S D (.string ⟨l.toArray⟩)).run P w = (Conv.stringToBytes e ⟨l.toArray⟩).run P w := by
      simp [convert, run_underlying hS, run_underlying hD, run_underlying he]
    have h2 : (Conv.stringToBytes e ⟨l.toArray⟩).run P w = .ok (.slice (some ⟨w.heap.size, 0, none⟩) l.length gc) ((w.drew.alloc (.cells row e)).freeze ⟨w.heap.size, gc, none⟩ 1) := by
      simp only [Conv.stringToBytes, size_mk, Sem.run_bind, run_choose_drew, Question.forced, Bool.false_eq_true, if_false, Result.andThen_ok, hgc', hmap, hrow, newRow, run_newObj_alloc, Sem.run_pure, markStringish, run_shape]
      rw [show w.drew.heap.size = w.heap.size from rfl, hsh]
      simp [size_mk]
    simp only [Sem.run_bind, h1, h2, Result.andThen_ok, Sem.run_pure]
  rw [hrun]
  have hfr : ∀ k, ((w.drew.alloc (.cells row e)).freeze ⟨w.heap.size, gc, none⟩ 1).heap[k]? = if k = w.heap.size then some (.cells row e (gc, gc + 1)) else (w.drew.alloc (.cells row e)).heap[k]? := by
    intro k
    simp only [World.freeze]
    rw [if_neg (by omega)]
    simp only [Array.getElem?_modify]
    by_cases hk : w.heap.size = k
    · subst hk
      rw [if_pos rfl, if_pos rfl]
      have := heap_alloc_new w.drew (.cells row e)
      rw [show w.heap.size = w.drew.heap.size from rfl, this]
      simp
    · rw [if_neg hk, if_neg (fun h => hk h.symm)]
  have := fine_new hr (sz := 1) (els := l.map byteEl) (w' := (w.drew.alloc (.cells row e)).freeze ⟨w.heap.size, gc, none⟩ 1) (c := row) (ty := e) (fz := (gc, gc + 1)) (cap := gc)
    (by intro i el hi; simp only [List.getElem?_map, Option.map_eq_some_iff] at hi; obtain ⟨b, _, rfl⟩ := hi; rfl)
    (by simp only [World.freeze]; rw [if_neg (by omega)]; rfl) (by simp only [World.freeze]; rw [if_neg (by omega)]; rfl) (by simp only [World.freeze]; rw [if_neg (by omega)]; rfl)
    (by simp [World.freeze]) (fun k hk => by rw [hfr, if_neg (by omega)]; exact heap_alloc_old w.drew _ hk) (by simp only [World.freeze]; rw [if_neg (by omega)]; simp) (by rw [hfr, if_pos rfl]) (by omega) (by simpa using hg1) hg2 (by intro k hk h; simp at h; omega)
    (by
      intro i el j x hi hj
      simp only [List.getElem?_map, Option.map_eq_some_iff] at hi
      obtain ⟨b, hb, rfl⟩ := hi
      have hil := (List.getElem?_eq_some_iff.1 hb).1
      cases j with
      | succ j => simp [byteEl] at hj
      | zero =>
        simp [byteEl] at hj
        subst hj
        refine ⟨.int .u8 b.toNat, ?_, RC_of_RD (.i _ _)⟩
        rw [← hrow, Nat.mul_one, Nat.add_zero, Array.getElem?_append_left (by simpa using hil)]
        simp [hb])
  exact ⟨_, _, J, _, .inl rfl, ⟨rfl, ⟨1, 1, some w.heap.size, 0, gc⟩, by rw [← hr.len]; exact get_last _ _, ⟨Nat.le_refl _, Nat.le_refl _⟩, fun _ => ⟨0, _, rfl, ⟨by simpa using hg1, by simp⟩, by simp⟩⟩, this.1, this.2.1, this.2.2⟩

theorem bytesOf_some {els : List (List V)} {l : List UInt8} (hb : bytesOf els = some l) : ∃ ns : List Int, els = ns.map (fun n => [V.i .u8 n]) ∧ l = ns.map fun n => UInt8.ofNat n.toNat := by
  induction els generalizing l with
  | nil => simp [bytesOf] at hb; subst hb; exact ⟨[], rfl, rfl⟩
  | cons el els ih =>
    unfold bytesOf at hb
    split at hb
    · rename_i heq; simp at heq
    · rename_i n r heq
      simp only [List.cons.injEq] at heq
      obtain ⟨rfl, rfl⟩ := heq
      simp only [Option.map_eq_some_iff] at hb
      obtain ⟨l', h1, rfl⟩ := hb
      obtain ⟨ns, rfl, rfl⟩ := ih h1
      exact ⟨n :: ns, rfl, rfl⟩
    · simp at hb

theorem fine_b2s {S D e : TypeId} (hS : P.underlying S = some (.slice e)) (hD : P.underlying D = some .string) (he : P.underlying e = some (.int .u8))
    (hr : RS J h m w) {X : V} {x : Value} (hx : RV J m w X x) {els : List (List V)} (hels : elsOf 1 h X = some els) {l : List UInt8} (hb : bytesOf els = some l) :
    Fine J m w h (.s l) ((do pure (.value (← convert S D x)) : Sem Next).run P w) := by
  obtain ⟨a, cap, vs, rfl, h1, h2, h3, h4⟩ := slice_flat hr hx hels
  obtain ⟨ns, hns, hl⟩ := bytesOf_some hb
  have hlen : els.length = ns.length := by rw [hns]; simp
  have hconv : (convert S D (.slice a els.length cap)).run P w = .ok (.string ⟨l.toArray⟩) w := by
    rw [run_convert_bytes_string w S D e a els.length cap hS he hD]
    cases a with
    | none =>
      obtain ⟨h5, _⟩ := h2 rfl
      have : ns = [] := List.eq_nil_of_length_eq_zero (by omega)
      subst this
      subst hl
      simp [Conv.bytesToString]
      rfl
    | some a =>
      have hvs : vs = ns.map (Value.int .u8) := by
        apply List.ext_getElem?
        intro i
        by_cases hi : i < ns.length
        · obtain ⟨cv, h5, h6⟩ := h3.2.2 i [.i .u8 ns[i]] 0 (.i .u8 ns[i]) (by rw [hns]; simp [hi]) rfl
          rw [Nat.mul_one, Nat.add_zero] at h5
          have h7 : RD J w (.i .u8 ns[i]) cv := h6
          cases h7
          rw [h5]; simp [hi]
        · rw [List.getElem?_eq_none (by rw [h3.1]; omega), List.getElem?_eq_none (by simp; omega)]
      have hload := run_loadCells_list (P := P) w a vs (h4 a rfl)
      rw [show vs.length = els.length by rw [h3.1]; omega, hvs] at hload
      rw [run_bytesToString w a els.length cap ns hload, foldl_push_bytes, hl]
      simp [ByteArray.empty, ByteArray.emptyWithCapacity]
      rfl
  have hrun : (do pure (.value (← convert S D (.slice a els.length cap))) : Sem Next).run P w = .ok (.value (.string ⟨l.toArray⟩)) w := by
    simp only [Sem.run_bind, hconv, Result.andThen_ok, Sem.run_pure]
  rw [hrun]
  exact Fine.pure hr (rv_s l)

/-- the fold of 'fill' -/
theorem fill_fold (off : Nat) : ∀ (vs : List Value) (k : Nat) (cs : Array Value), off + k + vs.length ≤ cs.size →
    ((vs.zipIdx k).foldl (fun cs (c, j) => cs.setIfInBounds (off + j) c) cs).toList = cs.toList.take (off + k) ++ vs ++ cs.toList.drop (off + k + vs.length)
  | [], k, cs, _ => by simp
  | v :: rest, k, cs, hl => by
    simp only [List.zipIdx_cons, List.foldl_cons]
    rw [fill_fold off rest (k + 1) _ (by simp at hl ⊢; omega)]
    have e := list_seg_step cs.toList (off + k) v rest (by simp at hl ⊢; omega)
    simpa [Array.toList_setIfInBounds, Nat.add_assoc] using e

theorem fill_step {place : Nat → Option (Nat × Nat)} {cells : Array Value} {i : Nat} {v : Value} {rest : List (Nat × Value)} {off sz : Nat} (hp : place i = some (off, sz)) (hv : v.cells.size = sz) (hl : off + sz ≤ cells.size) :
    ∃ cells', cells'.toList = cells.toList.take off ++ v.cells.toList ++ cells.toList.drop (off + sz) ∧ Instr.fill place cells ((i, v) :: rest) = Instr.fill place cells' rest := by
  refine ⟨(v.cells.toList.zipIdx.foldl (fun cs (c, j) => cs.setIfInBounds (off + j) c) cells), ?_, ?_⟩
  · have := fill_fold off v.cells.toList 0 cells (by simp; omega)
    rw [this]
    simp [hv]
  · have h1 : ¬ (v.cells.size ≠ sz) := by simp [hv]
    have h2 : ¬ (off + v.cells.size > cells.size) := by omega
    simp only [Instr.fill, hp]
    simp only [hv, ne_eq, not_true, decide_false, Bool.false_or, decide_eq_true_eq]
    rw [if_neg (by omega)]
    congr 1
    rw [← Array.foldl_toList]
    simp

theorem fill_ok {place : Nat → Option (Nat × Nat)} : ∀ (ps : List (Nat × Nat × V)) (qs : List (Nat × Value)) (zero : List V) (cells : Array Value) (cs : List V),
    ps.length = qs.length → (∀ (k : Nat) o s X i v, ps[k]? = some (o, s, X) → qs[k]? = some (i, v) → place i = some (o, s) ∧ RV J m w X v) → Pw (RC J m w) zero cells.toList → fillL zero ps = some cs →
    ∃ cells', Instr.fill place cells qs = some cells' ∧ Pw (RC J m w) cs cells'.toList
  | [], [], zero, cells, cs, _, _, hz, hf => by
    simp [fillL] at hf; subst hf
    exact ⟨cells, rfl, hz⟩
  | [], _ :: _, _, _, _, hl, _, _, _ => by simp at hl
  | _ :: _, [], _, _, _, hl, _, _, _ => by simp at hl
  | (o, s, X) :: ps, (i, v) :: qs, zero, cells, cs, hl, hk, hz, hf => by
    simp only [fillL, Option.ite_none_right_eq_some] at hf
    obtain ⟨⟨h1, h2, h3⟩, h4⟩ := hf
    obtain ⟨h5, h6⟩ := hk 0 o s X i v rfl rfl
    have hc := cells_ok h6 h3
    have hvs : v.cells.size = s := by have := hc.1; simp at this; omega
    have hzl : zero.length = cells.size := by simpa using hz.1
    obtain ⟨cells', h7, h8⟩ := fill_step (cells := cells) (rest := qs) h5 hvs (by omega)
    rw [h8]
    refine fill_ok ps qs (splice zero o X.cells) cells' cs (by simpa using hl) (fun k o' s' X' i' v' a b => hk (k + 1) o' s' X' i' v' (by simpa using a) (by simpa using b)) ?_ h4
    rw [h7]
    unfold splice
    rw [h1]
    exact Pw.append (Pw.append (hz.take o) hc) (hz.drop _)

theorem fine_build_s {T : TypeId} {fs : Array Field} (hT : P.underlying T = some (.struct fs)) {zero : List V} (hz : zc P T = some zero) (hfs : ∀ f ∈ fs.toList, (P.info? f.type).isSome = true)
    (hr : RS J h m w) {ps : List (Nat × Nat × V)} {qs : Array (Nat × Value)} (hl : ps.length = qs.toList.length)
    (hk : ∀ (k : Nat) o s X i v, ps[k]? = some (o, s, X) → qs.toList[k]? = some (i, v) → (∃ f, fs[i]? = some f ∧ o = f.offset ∧ (P.info? f.type).map (·.size) = some s) ∧ RV J m w X v) {cs : List V} (hf : fillL zero ps = some cs) :
    Fine J m w h (.a cs) ((do pure (.value (← Instr.build T qs)) : Sem Next).run P w) := by
  obtain ⟨z, hz1, hz2⟩ := zc_ok hz
  have hpl : ∀ w, (fs.mapM fun f => do pure (f.offset, ← sizeOf f.type) : Sem (Array (Nat × Nat))).run P w = .ok (fs.map fun f => (f.offset, ((P.info? f.type).map (·.size)).getD 0)) w := by
    intro w
    have hlist : ∀ (l : List Field), (∀ f ∈ l, (P.info? f.type).isSome = true) → (l.mapM fun f => do pure (f.offset, ← sizeOf f.type) : Sem (List (Nat × Nat))).run P w = .ok (l.map fun f => (f.offset, ((P.info? f.type).map (·.size)).getD 0)) w := by
      intro l
      induction l with
      | nil => intro _; simp
      | cons f l ih =>
        intro hl
        obtain ⟨i, hi⟩ := Option.isSome_iff_exists.1 (hl f (by simp))
        simp only [List.mapM_cons, Sem.run_bind, run_sizeOf' (show (P.info? f.type).map (·.size) = some i.size by rw [hi]; rfl), Result.andThen_ok, Sem.run_pure, ih (fun f hf => hl f (by simp [hf]))]
        simp [hi]
    rw [Array.mapM_eq_mapM_toList, Sem.run_map, hlist fs.toList hfs]
    simp only [Result.andThen_ok]
    congr 1
    apply Array.ext'
    simp
  obtain ⟨cells', h1, h2⟩ := fill_ok (J := J) (m := m) (w := w) (place := fun i => (fs.map fun f => (f.offset, ((P.info? f.type).map (·.size)).getD 0))[i]?) ps qs.toList zero z.cells cs hl (fun k o s X i v a b => by
    obtain ⟨⟨f, h3, h4, h5⟩, h6⟩ := hk k o s X i v a b
    refine ⟨?_, h6⟩
    simp only [Array.getElem?_map, h3, Option.map_some, h4, h5, Option.getD_some]) (hz2 J m w) hf
  have hrun : (do pure (.value (← Instr.build T qs)) : Sem Next).run P w = .ok (.value (.agg cells')) w := by
    simp only [Instr.build, Sem.run_bind, hz1, Result.andThen_ok, run_underlying hT, hpl, h1, Sem.run_pure]
  rw [hrun]
  exact Fine.pure hr ⟨cells', rfl, h2⟩

theorem fine_build_a {T e : TypeId} {n sz : Nat} (hT : P.underlying T = some (.array n e)) {zero : List V} (hz : zc P T = some zero) (he : (P.info? e).map (·.size) = some sz)
    (hr : RS J h m w) {ps : List (Nat × Nat × V)} {qs : Array (Nat × Value)} (hl : ps.length = qs.toList.length)
    (hk : ∀ (k : Nat) o s X i v, ps[k]? = some (o, s, X) → qs.toList[k]? = some (i, v) → (o = i * sz ∧ s = sz) ∧ RV J m w X v) {cs : List V} (hf : fillL zero ps = some cs) :
    Fine J m w h (.a cs) ((do pure (.value (← Instr.build T qs)) : Sem Next).run P w) := by
  obtain ⟨z, hz1, hz2⟩ := zc_ok hz
  obtain ⟨cells', h1, h2⟩ := fill_ok (J := J) (m := m) (w := w) (place := fun i => some (i * sz, sz)) ps qs.toList zero z.cells cs hl (fun k o s X i v a b => by
    obtain ⟨⟨h3, h4⟩, h6⟩ := hk k o s X i v a b
    exact ⟨by rw [h3, h4], h6⟩) (hz2 J m w) hf
  have hrun : (do pure (.value (← Instr.build T qs)) : Sem Next).run P w = .ok (.value (.agg cells')) w := by
    simp only [Instr.build, Sem.run_bind, hz1, Result.andThen_ok, run_underlying hT, run_sizeOf' he, h1, Sem.run_pure]
  rw [hrun]
  exact Fine.pure hr ⟨cells', rfl, h2⟩
end
end Go.Abs
