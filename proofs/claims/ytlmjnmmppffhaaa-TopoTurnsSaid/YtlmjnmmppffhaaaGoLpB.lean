/- Part of the abstract machine on which the proof stands: its values, code and their soundness against the model. -/
import Derived.Test.YtlmjnmmppffhaaaGoLp
import Derived.Test.YtlmjnmmppffhaaaGoHoA
import Derived.Test.YtlmjnmmppffhaaaGoBl
import Derived.Test.YtlmjnmmppffhaaaAbsSN
set_option linter.unusedVariables false
set_option linter.unusedSimpArgs false
namespace Go.Abs

def ics (l : List Int) : List (List V) := l.map fun x => [.i .i64 x]
def lsV (ls : List (List Int)) : V := .l 1 (ls.map fun l => [isV l])
def LoopsC (P : Program) (f : FuncId) : Prop := ∀ m : Mesh, CallIs P f [m.enc] (.t [lsV m.loops.1, .i .i64 m.loops.2])
def SimpleC (P : Program) (f : FuncId) : Prop := ∀ (m : Mesh) (l : List P2), m.check = 0 → l.length ≤ 1000000 → CallIs P f [m.enc, psV l] (.b (m.simple l))
def SourceC (P : Program) (f : FuncId) : Prop := ∀ (l : List P2) (v : Int), l.length ≤ 1000000 → CallIs P f [psV l, .i .i64 v] (.i .i64 (nxt l v))

/-- Lists that stand in arrays of their own. -/
def Held (b : Nat) (hx : List O) (ls : List (List Int)) (cells : List (List V)) : Prop :=
  cells.length = ls.length ∧ ∀ (i : Nat) (c : List V) (l : List Int), cells[i]? = some c → ls[i]? = some l → ∃ j g, c = [.own (b + j) g 0 l.length] ∧ hx[j]? = some (.arr g 1 (ics l))
def Flt (hx : List O) : Prop := ∀ o ∈ hx, ∀ n, o.cl n
theorem Held.nil (b : Nat) : Held b [] [] [] := ⟨rfl, by simp⟩
theorem Held.app {b : Nat} {hx : List O} {ls : List (List Int)} {cells : List (List V)} (h : Held b hx ls cells) (l : List O) : Held b (hx ++ l) ls cells :=
  ⟨h.1, fun i c x h1 h2 => by obtain ⟨j, g, h3, h4⟩ := h.2 i c x h1 h2; exact ⟨j, g, h3, by rw [List.getElem?_append_left (List.getElem?_eq_some_iff.1 h4).1]; exact h4⟩⟩
theorem Held.snoc {b : Nat} {hx : List O} {ls : List (List Int)} {cells : List (List V)} (h : Held b hx ls cells) {j g : Nat} {l : List Int} (hj : hx[j]? = some (.arr g 1 (ics l))) : Held b hx (ls ++ [l]) (cells ++ [[.own (b + j) g 0 l.length]]) := by
  refine ⟨by simp [h.1], fun i c x h1 h2 => ?_⟩
  by_cases hi : i < ls.length
  · rw [List.getElem?_append_left (by rw [h.1]; exact hi)] at h1
    rw [List.getElem?_append_left hi] at h2
    exact h.2 i c x h1 h2
  · rw [List.getElem?_append_right (by rw [h.1]; omega)] at h1
    rw [List.getElem?_append_right (by omega)] at h2
    have hi0 : i - ls.length = 0 := by
      have := (List.getElem?_eq_some_iff.1 h2).1
      simp at this; omega
    rw [h.1, hi0] at h1
    rw [hi0] at h2
    simp at h1 h2
    subst h1; subst h2
    exact ⟨j, g, rfl, hj⟩
theorem Held.cl {b : Nat} {hx : List O} {ls : List (List Int)} {cells : List (List V)} (h : Held b hx ls cells) {n : Nat} (hn : b + hx.length ≤ n) : ∀ el ∈ cells, ∀ x ∈ el, x.cl n = true := by
  intro el hel x hx'
  obtain ⟨i, hi⟩ := List.getElem?_of_mem hel
  have hlt := (List.getElem?_eq_some_iff.1 hi).1
  obtain ⟨j, g, rfl, h4⟩ := h.2 i el _ hi (List.getElem?_eq_getElem (by rw [← h.1]; exact hlt))
  have := (List.getElem?_eq_some_iff.1 h4).1
  simp at hx'; subst hx'
  simp [V.cl, V.cl1, V.cl0]; omega
theorem ics_isD (l : List Int) : ∀ el ∈ ics l, ∀ x ∈ el, x.isD = true := by
  intro el hel x hx
  obtain ⟨a, _, rfl⟩ := List.mem_map.1 hel
  simp at hx; subst hx; rfl
theorem ics_cl (l : List Int) (n : Nat) : ∀ el ∈ ics l, ∀ x ∈ el, x.cl n = true := fun el hel x hx => isD_cl n (ics_isD l el hel x hx)
theorem Held.frz {b : Nat} {base hx : List O} {ls : List (List Int)} {cells : List (List V)} (h : Held b hx ls cells) (hb : base.length = b) : cells.mapM (fun el => el.mapM (frzD (base ++ hx))) = some (ls.map fun l => [isV l]) := by
  induction cells generalizing ls with
  | nil =>
    have := h.1
    simp at this
    obtain rfl := List.length_eq_zero_iff.1 this.symm
    rfl
  | cons c cells ih =>
    have hl := h.1
    cases ls with
    | nil => simp at hl
    | cons l ls =>
      have h0 := h.2 0 c l rfl rfl
      obtain ⟨j, g, rfl, hj⟩ := h0
      have ht : Held b hx ls cells := ⟨by simpa using hl, fun i c x h1 h2 => h.2 (i + 1) c x (by simpa using h1) (by simpa using h2)⟩
      have hg : (base ++ hx)[b + j]? = some (.arr g 1 (ics l)) := by rw [← hb, app_get_r]; exact hj
      have ha : (ics l).all (fun x => x.all V.isD) = true := by
        rw [List.all_eq_true]
        exact fun el hel => List.all_eq_true.2 (ics_isD l el hel)
      have hlen : (ics l).length = l.length := by simp [ics]
      have hfr : frzD (base ++ hx) (.own (b + j) g 0 l.length) = some (isV l) := by
        have ht2 : List.take l.length (ics l) = ics l := List.take_of_length_le (by omega)
        show _ = some (V.l 1 (ics l))
        simp only [frzD, frz0, hg]
        rw [List.drop_zero, ht2, if_pos ⟨trivial, by omega, ha⟩]
      simp [List.mapM_cons, hfr, ih ht]
theorem frzN_held {b : Nat} {base hx : List O} {ls : List (List Int)} {cells : List (List V)} (h : Held b hx ls cells) (hb : base.length = b) {id g : Nat} (hg : (base ++ hx)[id]? = some (.arr g 1 cells)) : frzN (base ++ hx) (.own id g 0 ls.length) = some (lsV ls) := by
  have h1 := h.frz hb
  have ht : List.take ls.length cells = cells := List.take_of_length_le (by rw [h.1]; exact Nat.le_refl _)
  simp only [frzN, hg, List.drop_zero, ht, h1, h.1, Nat.zero_add, Nat.le_refl, and_self, if_true, Option.map_some, lsV]

theorem held_if {b : Nat} {base hx : List O} {ls : List (List Int)} {cells : List (List V)} (h : Held b hx ls cells) (hb : base.length = b) :
    (if ls.length ≤ cells.length then Option.map (V.l 1) (List.mapM (fun el => List.mapM (frzD (base ++ hx)) el) (List.take ls.length cells)) else none) = some (lsV ls) := by
  have h1 := h.frz hb
  have ht : List.take ls.length cells = cells := List.take_of_length_le (by rw [h.1]; exact Nat.le_refl _)
  simp only [ht, h1, h.1, Nat.le_refl, if_true, Option.map_some, lsV]

theorem simple_false {m : Mesh} {l : List P2} {k : Nat} (hk : k < l.length) (h : okAt m l k = false) : m.simple l = false := by
  unfold Mesh.simple
  rw [List.all_eq_false]
  exact ⟨k, List.mem_range.2 hk, by simp [h]⟩
theorem nxt_first {l : List P2} {k : Nat} {e : P2} (he : l[k]? = some e) (hn : ∀ a ∈ l.take k, a.y ≠ e.y) : nxt l e.y = e.x := by
  have hlt := (List.getElem?_eq_some_iff.1 he).1
  have hs : l = l.take k ++ e :: l.drop (k + 1) := by
    have h1 := List.take_append_drop k l
    rw [List.drop_eq_getElem_cons hlt, (List.getElem?_eq_some_iff.1 he).2] at h1
    exact h1.symm
  unfold nxt
  have : l.find? (fun a => decide (a.y = e.y)) = some e := by
    rw [hs, List.find?_append]
    have h0 : (l.take k).find? (fun a => decide (a.y = e.y)) = none := by
      rw [List.find?_eq_none]
      intro a ha
      simpa using hn a ha
    rw [h0]; simp
  rw [this]
theorem nxt_none {l : List P2} {v : Int} (hn : ∀ a ∈ l, a.y ≠ v) : nxt l v = v := by
  unfold nxt
  have : l.find? (fun a => decide (a.y = v)) = none := by
    rw [List.find?_eq_none]
    intro a ha
    simpa using hn a ha
  rw [this]

section
variable {P : Program} (hm : P.follows .mixedOrders = true)
include hm

theorem ref10_source_ok {f : FuncId} (hf : FnOk P f ref10_source.c ref10_source.r ref10_source.n) : SourceC P f := by
  intro l v hl
  refine PureC.is (pure_of hm hf (Nat.le_of_ble_eq_true rfl) ?_) rfl
  unfold ref10_source.c
  simp [go_sem, psV]
  refine AS_loop (α := Nat) (fun k => k ≤ l.length ∧ ∀ a ∈ l.take k, a.y ≠ v) (fun k => ⟨[(1, .i .i64 v), (7, psV l), (8, .i .i64 l.length), (9, .i .i64 k)], []⟩) (fun k => l.length - k) 0 ⟨Nat.zero_le _, by simp⟩ ?_ ?_
  · simp [go_sem, psV]
  · rintro k ⟨hk, hn⟩
    by_cases hkl : k = l.length
    · subst hkl
      rw [List.take_length] at hn
      simp [go_sem, psV, ref10_source.r, nxt_none hn]
    · have hlt : k < l.length := by omega
      have hp : l[k]? = some l[k] := List.getElem?_eq_getElem hlt
      have hts := take_succ_get hp
      generalize l[k] = e at hp hts
      obtain ⟨_, hp'⟩ := List.getElem?_eq_some_iff.1 hp
      by_cases hy : e.y = v
      · subst hy
        rw [nxt_first hp hn]
        simp (disch := omega) [go_sem, psV, hlt, hp, hp', pcs, ref10_source.r]
      · simp (disch := omega) [go_sem, psV, hlt, hp, hp', pcs, hy, wrap64_small]
        refine ⟨k + 1, ⟨by omega, ?_⟩, by omega, by simp⟩
        rw [hts]
        intro a ha
        rcases List.mem_append.1 ha with h | h
        · exact hn a h
        · simp at h; subst h; exact hy

set_option maxHeartbeats 1000000 in
theorem ref10_simple_ok {f fc fn fr : FuncId} (hf : FnOk P f (ref10_simple.c fc fn fr) ref10_simple.r ref10_simple.n) (hc : CountsC P fc) (hn : NumberC P fn) (hr : RevC P fr) : SimpleC P f := by
  intro m l hz hll
  have hl := (Mesh.check_zero.1 hz).2.1
  have hE := alluses_len m.tris m.tris.length
  rw [List.take_length] at hE
  have hC := cntL_ok (alluses m.tris)
  have hCl := hC.len
  have hnum : ∀ e, numU (cntL (alluses m.tris)) e = m.use e := fun e => by rw [hC.num]; simp [Mesh.use, hz]
  have hn1 : ∀ e, CallIs P fn [useV (cntL (alluses m.tris)), e.enc] (.i .i64 (m.use e)) := fun e => by
    have := hn (cntL (alluses m.tris)) e hC.1 (by omega)
    rwa [hnum] at this
  refine PureC.is (pure_of hm hf (Nat.le_of_ble_eq_true rfl) ?_) rfl
  unfold ref10_simple.c
  simp [go_sem, Mesh.enc, Mesh.cs]
  refine ACall_is (hc m hz) ?_
  generalize cntL (alluses m.tris) = L at *
  simp [go_sem, psV, useV]
  refine AS_loop (α := Nat) (fun k => k ≤ l.length ∧ ∀ i, i < k → okAt m l i = true) (fun k => ⟨[(1, psV l), (5, useV L), (10, psV l), (11, .i .i64 l.length), (12, .i .i64 k)], []⟩) (fun k => l.length - k) 0 ⟨Nat.zero_le _, by simp⟩ ?_ ?_
  · simp [go_sem, psV, useV]
  · rintro k ⟨hk, hok⟩
    by_cases hkl : k = l.length
    · subst hkl
      have : m.simple l = true := List.all_eq_true.2 fun i hi => hok i (List.mem_range.1 hi)
      simp [go_sem, psV, ref10_simple.r, this]
    · have hlt : k < l.length := by omega
      have hp : l[k]? = some l[k] := List.getElem?_eq_getElem hlt
      generalize l[k] = e at hp
      obtain ⟨_, hp'⟩ := List.getElem?_eq_some_iff.1 hp
      have hoe : okAt m l k = (decide (m.use e = 1) && (decide (m.use e.rev = 0) && !(decide (0 < k) && decide (((l[k - 1]?).getD ⟨0, 0⟩).x = e.x)))) := by unfold okAt; rw [hp]
      have h1 := hn1 e
      have h2 := hn1 e.rev
      simp only [useV, P2.enc, pcs] at h1 h2
      have hfalse : okAt m l k = false → m.simple l = false := simple_false hlt
      have hnext : okAt m l k = true → ∃ x', (x' ≤ l.length ∧ ∀ i, i < x' → okAt m l i = true) ∧ l.length - x' < l.length - k ∧ (k : Int) + 1 = x' := fun h => by
        refine ⟨k + 1, ⟨by omega, fun i hi => ?_⟩, by omega, by simp⟩
        by_cases hik : i = k
        · subst hik; exact h
        · exact hok i (by omega)
      simp (disch := omega) [go_sem, psV, useV, hlt, hp, hp', pcs]
      refine DCall_is h1 ?_
      by_cases c1 : m.use e = 1
      · simp (disch := omega) [go_sem, c1, psV, useV]
        refine DCall_is (hr e) ?_
        simp (disch := omega) [go_sem, P2.enc, pcs]
        refine DCall_is h2 ?_
        by_cases c2 : m.use e.rev = 0
        · cases k with
          | zero =>
            have hT : okAt m l 0 = true := by rw [hoe, c1, c2]; simp
            simp (disch := omega) [go_sem, c2, psV, useV, wrap64_small]
            simpa using hnext hT
          | succ j =>
            have hq : l[j]? = some l[j] := List.getElem?_eq_getElem (by omega)
            rw [Nat.add_sub_cancel, hq] at hoe
            simp only [Option.getD_some] at hoe
            generalize l[j] = d at hq hoe
            obtain ⟨_, hq'⟩ := List.getElem?_eq_some_iff.1 hq
            by_cases c3 : d.x = e.x
            · have hF : okAt m l (j + 1) = false := by rw [hoe]; simp [c1, c2, c3]
              simp (disch := omega) [go_sem, c2, c3, psV, useV, wrap64_small, hq, hq', pcs, show j < l.length by omega, hfalse hF, ref10_simple.r, show (0 : Int) < (j : Int) + 1 by omega]
              done
            · have hT : okAt m l (j + 1) = true := by rw [hoe, c1, c2]; simp [c3]
              simp (disch := omega) [go_sem, c2, c3, psV, useV, wrap64_small, hq, hq', pcs, show j < l.length by omega, show (0 : Int) < (j : Int) + 1 by omega]
              simpa using hnext hT
        · have hF : okAt m l k = false := by rw [hoe]; simp [c2]
          have c2' : (m.use e.rev != 0) = true := by simpa using c2
          simp (disch := omega) [go_sem, c2, c2', psV, useV, hfalse hF, ref10_simple.r]
          done
      · have hF : okAt m l k = false := by rw [hoe]; simp [c1]
        have c1' : (m.use e != 1) = true := by simpa using c1
        simp (disch := omega) [go_sem, c1, c1', psV, useV, hfalse hF, ref10_simple.r]
        done
end
end Go.Abs

set_option linter.unusedVariables false
set_option linter.unusedSimpArgs false
namespace Go.Abs

theorem edgesOf_mem {t : T3} {e : P2} (h : e ∈ edgesOf t) : (e.x = t.a ∨ e.x = t.b ∨ e.x = t.c) ∧ (e.y = t.a ∨ e.y = t.b ∨ e.y = t.c) := by
  unfold edgesOf edgesK at h
  have h1 : e ∈ edges3 t := List.mem_of_mem_take (List.mem_filter.1 h).1
  simp only [edges3, List.mem_cons, List.not_mem_nil, or_false] at h1
  rcases h1 with rfl | rfl | rfl <;> simp
theorem alluses_range {m : Mesh} (hz : m.check = 0) {e : P2} (h : e ∈ alluses m.tris) : 0 ≤ e.x ∧ e.x < m.verts.length ∧ 0 ≤ e.y ∧ e.y < m.verts.length := by
  obtain ⟨t, ht, he⟩ := List.mem_flatMap.1 h
  obtain ⟨h1, h2, h3, h4, h5, h6⟩ := T3.ok_iff.1 (List.all_eq_true.1 (Mesh.check_zero.1 hz).2.2.2 t ht)
  have := edgesOf_mem he
  omega
theorem border_range {m : Mesh} {e : P2} (h : e ∈ m.border) : 0 ≤ e.x ∧ e.x < m.verts.length ∧ 0 ≤ e.y ∧ e.y < m.verts.length := by
  obtain ⟨h1, h2, _⟩ := mem_border.1 h
  exact alluses_range h1 h2
theorem border_len (m : Mesh) : m.border.length ≤ 12288 := by
  by_cases hz : m.check = 0
  · have hn : m.border.Nodup := (border_asc m).imp fun h1 h2 => by subst h2; exact P2.lt_irrefl _ h1
    have h1 := nodupP_len hn (fun a ha => (mem_border.1 ha).2.1)
    have hE := alluses_len m.tris m.tris.length
    rw [List.take_length] at hE
    have := (Mesh.check_zero.1 hz).2.1
    omega
  · simp [Mesh.border, hz]
theorem nxt_mem {m : Mesh} (hz : m.check = 0) (h : m.simple m.border = true) {v : Int} (hv : v ∈ m.border.map P2.x) : nxt m.border v ∈ m.border.map P2.x := by
  rw [border_xy hz h] at hv
  obtain ⟨e, he, rfl⟩ := List.mem_map.1 hv
  rw [nxt_of (border_ynd hz h) he]
  exact List.mem_map.2 ⟨e, he, rfl⟩
theorem lsV_no (e : Int) : Le (.t [.nil, .i .i64 e]) (.t [lsV [], .i .i64 e]) := .inr ⟨_, _, rfl, rfl, .inl (Le0.nil 1), Le1.refl _, trivial⟩
theorem bl_congr {n : Nat} {g g' : Nat → Bool} (h : ∀ j, j < n → g j = g' j) : bl n g = bl n g' := by
  unfold bl
  exact List.map_congr_left fun j hj => by rw [h j (List.mem_range.1 hj)]
/-- The marks of these vertices. -/
def mk (n : Nat) (done : List Int) : List (List V) := bl n fun j => decide ((j : Int) ∈ done)
theorem mk_nil (n : Nat) : List.replicate n [V.b false] = mk n [] := by rw [bl_rep]; exact bl_congr fun j _ => by simp
theorem mk_len (n : Nat) (d : List Int) : (mk n d).length = n := bl_len _ _
theorem mk_set {n : Nat} {d : List Int} {v : Int} (h0 : 0 ≤ v) : (mk n d).set v.toNat [.b true] = mk n (d ++ [v]) := by
  unfold mk
  rw [bl_set]
  refine bl_congr fun j _ => ?_
  by_cases hj : j = v.toNat
  · have : (j : Int) = v := by omega
    simp [hj, show ((v.toNat : Nat) : Int) = v by omega]
  · have : (j : Int) ≠ v := by omega
    simp [hj, this]
theorem mk_get {n : Nat} {d : List Int} {v : Int} (h0 : 0 ≤ v) (h1 : v < n) : (mk n d)[v.toNat]? = some [.b (decide (v ∈ d))] := by
  unfold mk
  rw [bl_get (by omega), show ((v.toNat : Nat) : Int) = v by omega]
theorem mk_cl (n : Nat) (d : List Int) (k : Nat) : ∀ el ∈ mk n d, ∀ x ∈ el, x.cl k = true := bl_cl _ _ _
theorem Flt.app {a b : List O} (h : Flt a) (k : Flt b) : Flt (a ++ b) := fun o ho n => by
  rcases List.mem_append.1 ho with h1 | h1
  · exact h o h1 n
  · exact k o h1 n
theorem Flt.WeakH {hx l : List O} (h : Flt hx) (n : Nat) : WeakH n (hx ++ l) hx := WeakH_self fun o ho => h o ho n
theorem Flt.WeakH' {hx : List O} (h : Flt hx) (n : Nat) : Go.Abs.WeakH n hx hx := by
  have := h.WeakH (l := []) n
  rwa [List.append_nil] at this

theorem resN_two {σ : St} {r1 r2 : Rr} {v1 v2 u1 u2 : V} (h1 : readR σ r1 = some v1) (h2 : readR σ r2 = some v2) (k1 : frzN σ.h v1 = some u1) (k2 : frzN σ.h v2 = some u2) : resN [r1, r2] σ = some (.t [u1, u2]) := by
  simp [resN, h1, h2, k1, k2, tupV]
theorem resN_one {σ : St} {r1 : Rr} {v1 u1 : V} (h1 : readR σ r1 = some v1) (k1 : frzN σ.h v1 = some u1) : resN [r1] σ = some u1 := by
  simp [resN, h1, k1, tupV]

section
variable {P : Program} (hm : P.follows .mixedOrders = true)
include hm

set_option maxRecDepth 20000 in
set_option maxHeartbeats 4000000 in
theorem ref10_Loops_ok {f fc fb fs fo : FuncId} (hf : FnOk P f (ref10_Loops.c fc fb fs fo) ref10_Loops.r ref10_Loops.n) (hc : CheckC P fc) (hb : BoundaryC P fb) (hs : SimpleC P fs) (ho : SourceC P fo) : LoopsC P f := by
  intro m
  by_cases hz : m.check = 0
  case neg =>
    have he : m.loops = ([], m.check) := by simp [Mesh.loops, hz]
    rw [he]
    refine CallIs.res (r := .t [.nil, .i .i64 m.check]) ?_ (lsV_no _)
    refine PureC.is (pure_of hm hf (Nat.le_of_ble_eq_true rfl) ?_) rfl
    unfold ref10_Loops.c
    simp [go_sem, Mesh.enc, Mesh.cs]
    refine ACall_is (hc m) ?_
    simp [go_sem, hz, ref10_Loops.r]
  have hbl := border_len m
  have hs1 := hs m m.border hz (by omega)
  cases hsi : m.simple m.border
  case false =>
    have he : m.loops = ([], 13) := by simp [Mesh.loops, hz, hsi]
    rw [he]
    rw [hsi] at hs1
    refine CallIs.res (r := .t [.nil, .i .i64 13]) ?_ (lsV_no _)
    refine PureC.is (pure_of hm hf (Nat.le_of_ble_eq_true rfl) ?_) rfl
    unfold ref10_Loops.c
    simp [go_sem, Mesh.enc, Mesh.cs]
    refine ACall_is (hc m) ?_
    simp [go_sem, hz]
    refine ACall_is (hb m) ?_
    simp [go_sem, psV]
    refine ACall_is hs1 ?_
    simp [go_sem, ref10_Loops.r]
  have he : m.loops = ((loopsK (nxt m.border) m.border m.border.length).2, 0) := by simp [Mesh.loops, hz, hsi, loopsOf]
  rw [he]
  rw [hsi] at hs1
  have z1 := (Mesh.check_zero.1 hz).1
  have hrange : ∀ e ∈ m.border, 0 ≤ e.x ∧ e.x < m.verts.length := fun e he => ⟨(border_range he).1, (border_range he).2.1⟩
  have hnm : ∀ v, v ∈ m.border.map P2.x → nxt m.border v ∈ m.border.map P2.x := fun v => nxt_mem hz hsi
  have ho1 := fun v => ho m.border v (by omega)
  refine PureC.is (pure_ofF hm hf (Nat.le_of_ble_eq_true rfl) ?_) rfl
  unfold ref10_Loops.c
  simp [go_sem, Mesh.enc, Mesh.cs]
  refine ACall_is (hc m) ?_
  simp [go_sem, hz]
  refine ACall_is (hb m) ?_
  simp [go_sem, psV]
  refine ACall_is hs1 ?_
  clear hs1 he
  generalize m.border = l at *
  generalize hN : m.verts.length = N at *
  simp (disch := omega) [go_sem, vsV, hN, mk_nil]
  refine ⟨⟨by omega, by omega⟩, ?_⟩
  have hNC : ∀ v ∈ l.map P2.x, 0 ≤ v ∧ v < N := fun v hv => by obtain ⟨e, he, rfl⟩ := List.mem_map.1 hv; exact hrange e he
  refine AS_loopG [.t 7 1] (α := Nat × List O × List (List V)) (fun p => p.1 ≤ l.length ∧ Held 3 p.2.1 (loopsK (nxt l) l p.1).2 p.2.2 ∧ Flt p.2.1 ∧ (loopsK (nxt l) l p.1).2.length ≤ p.1)
    (fun p => ⟨[(5, psV l), (6, .own 1 1 0 N), (7, .own 2 ((loopsK (nxt l) l p.1).2.length + 1) 0 (loopsK (nxt l) l p.1).2.length), (27, psV l), (28, .i .i64 l.length), (29, .i .i64 p.1)],
      .dead :: .arr 1 1 (mk N (loopsK (nxt l) l p.1).1) :: .arr ((loopsK (nxt l) l p.1).2.length + 1) 1 p.2.2 :: p.2.1⟩)
    (fun p => l.length - p.1) (0, [], []) ⟨Nat.zero_le _, Held.nil 3, by simp [Flt], by simp [loopsK]⟩ ?_ ?_
  · simp [go_sem, psV, loopsK]
    exact mk_cl _ _ _
  · rintro ⟨k, hx, cells⟩ ⟨hk, hH, hF, hkl⟩
    simp only at hk hH hF hkl ⊢
    by_cases hkl : k = l.length
    · subst hkl
      have hfz := held_if (base := [.dead, .arr 1 1 (mk N (loopsK (nxt l) l l.length).1), .arr ((loopsK (nxt l) l l.length).2.length + 1) 1 cells]) hH rfl
      simp only [List.cons_append, List.nil_append] at hfz
      generalize loopsK (nxt l) l l.length = D at *
      simp [go_sem, psV, ref10_Loops.r, DoneF_r]
      rw [hfz]; rfl
    · have hlt : k < l.length := by omega
      have hp : l[k]? = some l[k] := List.getElem?_eq_getElem hlt
      have hmem : l[k] ∈ l := List.getElem_mem _
      have hst := loopsK_succ (nxt l) hp
      generalize l[k] = e at hp hst hmem
      obtain ⟨_, hp'⟩ := List.getElem?_eq_some_iff.1 hp
      obtain ⟨r1, r2⟩ := hrange e hmem
      have hmg := mk_get (n := N) (d := (loopsK (nxt l) l k).1) r1 r2
      obtain ⟨hml, hmg'⟩ := List.getElem?_eq_some_iff.1 hmg
      generalize loopsK (nxt l) l k = D at *
      obtain ⟨done, ls⟩ := D
      simp only at *
      unfold loopStep at hst
      simp only at hst
      by_cases hd : e.x ∈ done
      · rw [if_pos hd] at hst
        rw [decide_eq_true hd] at hmg
        rw [decide_eq_true hd] at hmg'
        simp (disch := omega) [go_sem, psV, hlt, hp, hp', pcs, r1, r2, hmg, hmg', wrap64_small, app_get_r, app_get_0]
        exact ⟨k + 1, hx, cells, ⟨by omega, by rw [hst]; exact hH, hF, by rw [hst]; simp only; omega⟩, by omega, by omega, ⟨by rw [hst], by simp⟩, ⟨by rw [hst], mk_cl _ _ _⟩, ⟨⟨by rw [hst], rfl⟩, hH.cl (by omega)⟩, hF.WeakH _⟩
      · rw [if_neg hd] at hst
        rw [decide_eq_false hd] at hmg hmg'
        simp (disch := omega) [go_sem, psV, hlt, hp, hp', pcs, r1, r2, hmg, hmg', wrap64_small, app_get_r, app_get_0]
        have hxA : e.x ∈ l.map P2.x := List.mem_map.2 ⟨e, hmem, rfl⟩
        have htd := todo_le (l.map P2.x) done
        rw [List.length_map] at htd
        generalize hR : walkW (nxt l) done (l.length + 1) [] e.x = R at hst
        refine AS_loopG [.t 10 1] (α := Nat × List Int × Int) (fun q => q.2.2 ∈ l.map P2.x ∧ todo (l.map P2.x) (done ++ q.2.1) < q.1 ∧ walkW (nxt l) done q.1 q.2.1 q.2.2 = R ∧ q.2.1.length + q.1 ≤ l.length + 1)
          (fun q => ⟨[(5, psV l), (6, .own 1 1 0 N), (7, .own 2 (ls.length + 1) 0 ls.length), (10, .own (hx.length + 4) (q.2.1.length + 1) 0 q.2.1.length), (11, .i .i64 q.2.2), (27, psV l), (28, .i .i64 l.length), (29, .i .i64 k)],
            .dead :: .arr 1 1 (mk N (done ++ q.2.1)) :: .arr (ls.length + 1) 1 cells :: (hx ++ [.dead, .arr (q.2.1.length + 1) 1 (ics q.2.1)])⟩)
          (fun q => q.1) (l.length + 1, [], e.x) ⟨hxA, by simp only [List.append_nil]; omega, hR, by simp⟩ ?_ ?_
        · simp [go_sem, psV, ics]
          exact ⟨mk_cl _ _ _, hH.cl (by omega), WeakH_app (fun o ho => hF o ho _) (by simp [go_sem])⟩
        · rintro ⟨fu, w, v⟩ ⟨q1, q2, q3, q4⟩
          simp only at q1 q2 q3 q4 ⊢
          obtain ⟨v1, v2⟩ := hNC v q1
          have hmv := mk_get (n := N) (d := done ++ w) v1 v2
          obtain ⟨hml2, hmv'⟩ := List.getElem?_eq_some_iff.1 hmv
          cases fu with
          | zero => omega
          | succ fu =>
            unfold walkW at q3
            by_cases hvd : v ∈ done ++ w
            · rw [if_pos hvd] at q3
              subst q3
              rw [decide_eq_true hvd] at hmv hmv'
              have htc : List.take ls.length cells = cells := List.take_of_length_le (by rw [hH.1]; exact Nat.le_refl _)
              have e4 : hx.length + 4 = 3 + (hx.length + 1) := by omega
              have hHs : Held 3 (hx ++ [.dead, .arr (w.length + 1) 1 (ics w)]) (ls ++ [w]) (cells ++ [[.own (hx.length + 4) (w.length + 1) 0 w.length]]) := by
                rw [e4]
                exact (hH.app _).snoc (by rw [app_get_r]; rfl)
              have hFs : Flt (hx ++ [.dead, .arr (w.length + 1) 1 (ics w)]) := hF.app fun o ho n => by
                simp at ho
                rcases ho with rfl | rfl
                · trivial
                · exact ics_cl w n
              simp (disch := omega) [go_sem, psV, v1, v2, hmv, hmv', wrap64_small, app_get_r, app_get_0, htc]
              refine ⟨⟨by have := hH.1; omega, by omega, by omega⟩, k + 1, hx ++ [.dead, .arr (w.length + 1) 1 (ics w)], _, ⟨by omega, by rw [hst]; exact hHs, hFs, by rw [hst]; simp only [List.length_append, List.length_cons, List.length_nil]; omega⟩, by omega, by simp, ⟨by rw [hst]; simp, by simp⟩, ⟨by rw [hst], mk_cl _ _ _⟩, ⟨⟨by rw [hst]; simp, rfl⟩, hHs.cl (by simp; omega)⟩, ?_⟩
              have := hFs.WeakH (l := [O.arr 1 1 [[V.own (hx.length + 4) (w.length + 1) 0 w.length]]]) ((hx ++ [O.dead, O.arr (w.length + 1) 1 (ics w)]).length + 1 + 1 + 1)
              rwa [List.append_assoc] at this
            · rw [if_neg hvd] at q3
              rw [decide_eq_false hvd] at hmv hmv'
              have hms := mk_set (n := N) (d := done ++ w) v1
              have htl := todo_lt q1 hvd
              have htw : List.take w.length (ics w) = ics w := List.take_of_length_le (by simp [ics])
              simp (disch := omega) [go_sem, psV, v1, v2, hmv, hmv', hms, wrap64_small, app_get_r, app_get_0, htw]
              refine ⟨⟨by simp [ics], by omega, by omega⟩, ?_⟩
              refine ACall_is (ho1 v) ?_
              simp (disch := omega) [go_sem, psV]
              have hnv := hnm v q1
              rw [List.mem_map] at hnv
              refine ⟨fu, w ++ [v], nxt l v, ⟨hnv, by rw [← List.append_assoc]; omega, q3, by simp; omega⟩, by omega, ?_⟩
              have hics : ics (w ++ [v]) = ics w ++ [[.i .i64 v]] := by simp [ics]
              have hwl : (w ++ [v]).length = w.length + 1 := by simp
              rw [hics, hwl]
              exact ⟨⟨rfl, rfl⟩, ⟨rfl, mk_cl _ _ _⟩, hH.cl (by omega), WeakH_app (fun o ho => hF o ho _) ⟨.inl rfl, .inr ⟨rfl, by rw [← hics]; exact ics_cl _ _⟩, trivial⟩⟩
end
end Go.Abs

