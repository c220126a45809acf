/- Filling holes: plain laws. -/
import Derived.Test.YtahpclonmobkiaaGoLq
import Derived.Test.YtahpclonmobkiaaGoOriD
set_option linter.unusedVariables false
set_option linter.unusedSimpArgs false
namespace Go.Abs

/-- How much more often an edge is used than its reverse. -/
def net (E : List P2) (e : P2) : Int := (E.count e : Int) - (E.count e.rev : Int)
theorem net_nil (e : P2) : net [] e = 0 := by simp [net]
theorem net_app (E F : List P2) (e : P2) : net (E ++ F) e = net E e + net F e := by
  unfold net; rw [List.count_append, List.count_append]; omega
theorem net_perm {E F : List P2} (h : E.Perm F) (e : P2) : net E e = net F e := by unfold net; rw [h.count_eq, h.count_eq]
theorem net_rev (E : List P2) (e : P2) : net (E.map P2.rev) e = - net E e := by
  unfold net; rw [count_rev, count_rev, P2.rev2]; omega
theorem net_rev1 (p e : P2) : net [p.rev] e = - net [p] e := net_rev [p] e
theorem net_cons (p : P2) (E : List P2) (e : P2) : net (p :: E) e = net [p] e + net E e := net_app [p] E e
theorem net_self (x : Int) (e : P2) : net [⟨x, x⟩] e = 0 := by
  have := net_rev1 ⟨x, x⟩ e
  have h : (⟨x, x⟩ : P2).rev = ⟨x, x⟩ := rfl
  rw [h] at this; omega
theorem net_filter (E : List P2) (e : P2) : net (E.filter fun a => decide (a.x ≠ a.y)) e = net E e := by
  induction E with
  | nil => rfl
  | cons a E ih =>
    rw [List.filter_cons]
    split
    · rw [net_cons, net_cons a E, ih]
    · rename_i h
      have h : a.x = a.y := by simpa using h
      have ha : a = ⟨a.x, a.x⟩ := by cases a; simp only at h; subst h; rfl
      rw [net_cons, ih, ha, net_self]; omega
theorem net_edgesOf (t : T3) (e : P2) : net (edgesOf t) e = net [⟨t.a, t.b⟩] e + net [⟨t.b, t.c⟩] e + net [⟨t.c, t.a⟩] e := by
  have h : edgesOf t = (edges3 t).filter fun a => decide (a.x ≠ a.y) := rfl
  rw [h, net_filter]
  unfold edges3
  rw [net_cons, net_cons ⟨t.b, t.c⟩]; omega
theorem net_alluses_app (l k : List T3) (e : P2) : net (alluses (l ++ k)) e = net (alluses l) e + net (alluses k) e := by
  unfold alluses; rw [List.flatMap_append, net_app]
theorem net_alluses1 (t : T3) (e : P2) : net (alluses [t]) e = net (edgesOf t) e := by unfold alluses; simp

def gD (w : List Int) (i : Nat) : Int := (w[i]?).getD 0
def pathP (w : List Int) (j : Nat) : List P2 := (List.range j).map fun i => ⟨gD w i, gD w (i + 1)⟩
theorem pathP_succ (w : List Int) (j : Nat) : pathP w (j + 1) = pathP w j ++ [⟨gD w j, gD w (j + 1)⟩] := by simp [pathP, List.range_succ]
theorem fan_net (w : List Int) (e : P2) : ∀ k, net (alluses (fanK w k)) e = net (pathP w (k + 1)) e + net [⟨gD w (k + 1), gD w 0⟩] e
  | 0 => by
    have h1 : alluses (fanK w 0) = [] := rfl
    have h2 : pathP w 1 = [⟨gD w 0, gD w 1⟩] := rfl
    have := net_rev1 ⟨gD w 0, gD w 1⟩ e
    have h3 : (⟨gD w 0, gD w 1⟩ : P2).rev = ⟨gD w 1, gD w 0⟩ := rfl
    rw [h3] at this
    rw [h1, h2, net_nil, this]; omega
  | k + 1 => by
    have ih := fan_net w e k
    have := net_rev1 ⟨gD w 0, gD w (k + 1)⟩ e
    have h3 : (⟨gD w 0, gD w (k + 1)⟩ : P2).rev = ⟨gD w (k + 1), gD w 0⟩ := rfl
    rw [h3] at this
    rw [fanK_succ, net_alluses_app, net_alluses1, net_edgesOf, pathP_succ, net_app, ih]
    show _ + (net [⟨gD w 0, gD w (k + 1)⟩] e + net [⟨gD w (k + 1), gD w (k + 1 + 1)⟩] e + net [⟨gD w (k + 1 + 1), gD w 0⟩] e) = _
    omega
theorem cyc_list {nx : Int → Int} {w : List Int} (h : Cyc nx w) : w.map (fun v => (⟨v, nx v⟩ : P2)) = pathP w (w.length - 1) ++ [⟨gD w (w.length - 1), gD w 0⟩] := by
  have hne : 0 < w.length := List.length_pos_iff.2 h.1
  have hpl : (pathP w (w.length - 1)).length = w.length - 1 := by simp [pathP]
  apply List.ext_getElem?
  intro i
  by_cases hi : i < w.length
  · have hp : w[i]? = some w[i] := List.getElem?_eq_getElem hi
    have hm : (i + 1) % w.length < w.length := Nat.mod_lt _ hne
    have hc := h.2 i _ _ hp (List.getElem?_eq_getElem hm)
    rw [List.getElem?_map, hp, Option.map_some, hc]
    by_cases hl : i < w.length - 1
    · rw [List.getElem?_append_left (by omega)]
      have : (pathP w (w.length - 1))[i]? = some ⟨gD w i, gD w (i + 1)⟩ := by simp [pathP, hl]
      rw [this]
      have e1 : gD w i = w[i] := by simp [gD, hp]
      have e2 : gD w (i + 1) = w[i + 1]'(by omega) := by unfold gD; rw [List.getElem?_eq_getElem (by omega)]; rfl
      have e3 : (i + 1) % w.length = i + 1 := Nat.mod_eq_of_lt (by omega)
      simp only [e1, e2, e3]
    · have hi2 : i = w.length - 1 := by omega
      rw [List.getElem?_append_right (by omega), hpl, show i - (w.length - 1) = 0 by omega]
      have e1 : gD w (w.length - 1) = w[i] := by unfold gD; rw [← hi2, hp]; rfl
      have e2 : gD w 0 = w[0] := by unfold gD; rw [List.getElem?_eq_getElem hne]; rfl
      have e3 : (i + 1) % w.length = 0 := by rw [show i + 1 = w.length by omega, Nat.mod_self]
      simp only [e1, e2, e3, List.getElem?_cons_zero]
  · rw [List.getElem?_eq_none (by simp; omega), List.getElem?_eq_none (by simp [hpl]; omega)]
theorem fanOf_net {nx : Int → Int} {w : List Int} (h : Cyc nx w) (h2 : 2 ≤ w.length) (e : P2) : net (alluses (fanOf w)) e = net (w.map fun v => (⟨v, nx v⟩ : P2)) e := by
  unfold fanOf
  rw [fan_net, cyc_list h, net_app, show w.length - 2 + 1 = w.length - 1 by omega]
theorem fans_net {nx : Int → Int} {ls : List (List Int)} (h : ∀ w ∈ ls, Cyc nx w) (h2 : ∀ w ∈ ls, 2 ≤ w.length) (e : P2) : net (alluses (ls.flatMap fanOf)) e = net (ls.flatten.map fun v => (⟨v, nx v⟩ : P2)) e := by
  induction ls with
  | nil => rfl
  | cons w ls ih =>
    rw [List.flatMap_cons, net_alluses_app, fanOf_net (h w (by simp)) (h2 w (by simp)), ih (fun u hu => h u (by simp [hu])) (fun u hu => h2 u (by simp [hu])), List.flatten_cons, List.map_append, net_app]
theorem perm_nodup {l k : List Int} (hl : l.Nodup) (hk : k.Nodup) (h : ∀ v, v ∈ l ↔ v ∈ k) : l.Perm k := by
  rw [List.perm_iff_count]
  intro v
  have c : ∀ {l : List Int}, l.Nodup → l.count v = if v ∈ l then 1 else 0 := fun {l} hl => by
    by_cases he : v ∈ l
    · rw [if_pos he]
      have h1 := List.count_pos_iff.2 he
      have h2 := List.nodup_iff_count.1 hl v
      omega
    · rw [if_neg he]; exact List.count_eq_zero.2 he
  rw [c hl, c hk]
  by_cases hv : v ∈ l
  · rw [if_pos hv, if_pos ((h v).1 hv)]
  · rw [if_neg hv, if_neg (fun hh => hv ((h v).2 hh))]
theorem border_nodup (m : Mesh) : m.border.Nodup := (border_asc m).imp fun h1 h2 => by subst h2; exact P2.lt_irrefl _ h1
/-- The mesh's edges beyond those that cancel are its boundary. -/
theorem net_border {m : Mesh} (hz : m.check = 0) (h : m.simple m.border = true) (e : P2) : net (alluses m.tris) e = net m.border e := by
  have hn := border_nodup m
  have hu : ∀ e, m.use e = (alluses m.tris).count e := fun e => by simp [Mesh.use, hz]
  have hcnt : ∀ e, m.border.count e = if e ∈ m.border then 1 else 0 := fun e => by
    by_cases he : e ∈ m.border
    · rw [if_pos he]
      have h1 := List.count_pos_iff.2 he
      have h2 := List.nodup_iff_count.1 hn e
      omega
    · rw [if_neg he]; exact List.count_eq_zero.2 he
  unfold net
  rw [hcnt, hcnt]
  by_cases h1 : e ∈ m.border
  · have g1 := simple_mem h h1
    rw [hu, hu] at g1
    have h2 : e.rev ∉ m.border := fun h2 => by have := simple_mem h h2; rw [P2.rev2, hu, hu] at this; omega
    rw [if_pos h1, if_neg h2]; omega
  · by_cases h2 : e.rev ∈ m.border
    · have g2 := simple_mem h h2
      rw [P2.rev2, hu, hu] at g2
      rw [if_neg h1, if_pos h2]; omega
    · rw [if_neg h1, if_neg h2]
      have p1 : 0 ≤ m.use e := by rw [hu]; omega
      have p2 : 0 ≤ m.use e.rev := by rw [hu]; omega
      have k1 : ¬ (m.use e.rev < m.use e) := fun hlt => h1 (mem_border.2 ⟨hz, (use_pos hz).2 (by omega), hlt⟩)
      have k2 : ¬ (m.use e < m.use e.rev) := fun hlt => h2 (mem_border.2 ⟨hz, (use_pos hz).2 (by omega), by rw [P2.rev2]; exact hlt⟩)
      rw [hu, hu] at k1 k2
      omega
def Mesh.fillM (m : Mesh) : Mesh := ⟨m.verts, m.tris ++ m.loops.1.flatMap fanOf⟩
theorem loops_ok {m : Mesh} (h : m.loops.2 = 0) : m.check = 0 ∧ m.simple m.border = true ∧ m.loops.1 = loopsOf m.border := by
  unfold Mesh.loops at h ⊢
  by_cases hz : m.check = 0
  · rw [if_pos hz] at h ⊢
    by_cases hs : m.simple m.border = true
    · rw [if_pos hs]; exact ⟨hz, hs, rfl⟩
    · rw [if_neg hs] at h; simp at h
  · rw [if_neg hz] at h; exact absurd h hz
theorem fill_net {m : Mesh} (h : m.loops.2 = 0) (e : P2) : net (alluses m.fillM.tris) e = 0 := by
  obtain ⟨hz, hs, hl⟩ := loops_ok h
  have hL := loops_are hz hs
  unfold Mesh.fillM
  simp only
  rw [net_alluses_app, hl, fans_net hL.cyc (fun w hw => by have := loops_long hz hs w hw; omega)]
  have hy := border_ynd hz hs
  have hp : (loopsOf m.border).flatten.Perm (m.border.map P2.y) := perm_nodup hL.nodup hy fun v => by rw [hL.mem, border_xy hz hs]
  have h2 : (m.border.map P2.y).map (fun v => (⟨v, nxt m.border v⟩ : P2)) = m.border.map P2.rev := by
    rw [List.map_map]
    refine List.map_congr_left fun e he => ?_
    simp only [Function.comp, nxt_of hy he]; rfl
  rw [net_perm (hp.map _), h2, net_rev, net_border hz hs]; omega
theorem border_nil {m : Mesh} (hz : m.check = 0) : m.border = [] ↔ ∀ e, net (alluses m.tris) e = 0 := by
  have hu : ∀ e, m.use e = (alluses m.tris).count e := fun e => by simp [Mesh.use, hz]
  constructor
  · intro hb e
    have hc : m.closed = true := by simp [Mesh.closed, hz, hb]
    have k : ∀ e, m.use e ≤ m.use e.rev := fun e => by
      refine Decidable.byContradiction fun hlt => ?_
      have p2 : 0 ≤ m.use e.rev := by rw [hu]; omega
      have : e ∈ m.border := mem_border.2 ⟨hz, (use_pos hz).2 (by omega), by omega⟩
      rw [hb] at this; simp at this
    have k1 := k e
    have k2 := k e.rev
    rw [P2.rev2] at k2
    unfold net
    rw [hu, hu] at k1 k2
    omega
  · intro h
    rw [List.eq_nil_iff_forall_not_mem]
    intro e he
    have h1 := (mem_border.1 he).2.2
    have h2 := h e
    unfold net at h2
    rw [hu, hu] at h1
    omega
theorem fanOf_mem {w : List Int} {t : T3} (h : t ∈ fanOf w) : t.a ∈ w ∧ t.b ∈ w ∧ t.c ∈ w := by
  unfold fanOf fanK at h
  obtain ⟨i, hi, rfl⟩ := List.mem_map.1 h
  have hi := List.mem_range.1 hi
  have k : ∀ j, j < w.length → (w[j]?).getD 0 ∈ w := fun j hj => by rw [List.getElem?_eq_getElem hj]; exact List.getElem_mem _
  exact ⟨k 0 (by omega), k (i + 1) (by omega), k (i + 2) (by omega)⟩
theorem fill_check {m : Mesh} (h : m.loops.2 = 0) (hl : m.fillM.tris.length ≤ 4096) : m.fillM.check = 0 := by
  obtain ⟨hz, hs, hls⟩ := loops_ok h
  obtain ⟨z1, z2, z3, z4⟩ := Mesh.check_zero.1 hz
  refine Mesh.check_zero.2 ⟨z1, hl, z3, ?_⟩
  simp only [Mesh.fillM, tsOk, List.all_eq_true] at z4 ⊢
  intro t ht
  rcases List.mem_append.1 ht with h1 | h1
  · exact z4 t h1
  · rw [hls] at h1
    obtain ⟨w, hw, htw⟩ := List.mem_flatMap.1 h1
    have hL := loops_are hz hs
    have k : ∀ v ∈ w, 0 ≤ v ∧ v < m.verts.length := fun v hv => by
      obtain ⟨e, he, rfl⟩ := List.mem_map.1 ((hL.mem v).1 (List.mem_flatten.2 ⟨w, hw, hv⟩))
      exact ⟨(border_range he).1, (border_range he).2.1⟩
    obtain ⟨m1, m2, m3⟩ := fanOf_mem htw
    exact T3.ok_iff.2 ⟨(k _ m1).1, (k _ m1).2, (k _ m2).1, (k _ m2).2, (k _ m3).1, (k _ m3).2⟩
theorem fill_border {m : Mesh} (h : m.loops.2 = 0) (hl : m.fillM.tris.length ≤ 4096) : m.fillM.border = [] := (border_nil (fill_check h hl)).2 (fill_net h)
theorem loops_closed {m : Mesh} (hz : m.check = 0) (hb : m.border = []) : m.loops = ([], 0) := by
  unfold Mesh.loops
  rw [if_pos hz, hb]; rfl
def fillR (m : Mesh) : Mesh × Int × Int := if m.loops.2 = 0 then (if m.fillM.tris.length ≤ 4096 then (m.fillM, m.loops.1.length, 0) else (noMesh, 0, 2)) else (noMesh, 0, m.loops.2)
def fillV (r : Mesh × Int × Int) : V := .t [r.1.enc, .i .i64 r.2.1, .i .i64 r.2.2]
def FillC (P : Program) (f : FuncId) : Prop := ∀ m : Mesh, CallIs P f [m.enc] (fillV (fillR m))
theorem loops_sum {m : Mesh} (h : m.loops.2 = 0) : (m.loops.1.map List.length).sum = m.border.length := by
  obtain ⟨hz, hs, hls⟩ := loops_ok h
  have hL := loops_are hz hs
  have hx := simple_xnd hs (border_asc m)
  have hp := perm_nodup hL.nodup hx hL.mem
  rw [hls, ← List.length_flatten, hp.length_eq, List.length_map]
theorem fans_len (ls : List (List Int)) : (ls.flatMap fanOf).length ≤ (ls.map List.length).sum := by
  induction ls with
  | nil => simp
  | cons w ls ih =>
    rw [List.flatMap_cons, List.length_append, List.map_cons, List.sum_cons]
    have : (fanOf w).length = w.length - 2 := by unfold fanOf; exact fanK_len _ _
    omega
theorem fill_len {m : Mesh} (h : m.loops.2 = 0) : m.fillM.tris.length ≤ m.tris.length + m.border.length := by
  have h1 := fans_len m.loops.1
  rw [loops_sum h] at h1
  simp only [Mesh.fillM, List.length_append]; omega
theorem border_len3 (m : Mesh) : m.border.length ≤ 3 * m.tris.length := by
  by_cases hz : m.check = 0
  · have h1 := nodupP_len (border_nodup m) (fun a ha => (mem_border.1 ha).2.1)
    have hE := alluses_len m.tris m.tris.length
    rw [List.take_length] at hE
    omega
  · simp [Mesh.border, hz]
theorem fillR_few {m : Mesh} (ht : m.tris.length ≤ 40) : fillR m = if m.loops.2 = 0 then (m.fillM, (m.loops.1.length : Int), 0) else (noMesh, 0, m.loops.2) := by
  unfold fillR
  by_cases h : m.loops.2 = 0
  · rw [if_pos h, if_pos h, if_pos]
    have := fill_len h
    have := border_len3 m
    omega
  · rw [if_neg h, if_neg h]
theorem fill_fill {m : Mesh} (h : m.loops.2 = 0) (hl : m.fillM.tris.length ≤ 4096) : fillR m.fillM = (m.fillM, 0, 0) := by
  have h1 := loops_closed (fill_check h hl) (fill_border h hl)
  have h2 : m.fillM.fillM = m.fillM := by
    show Mesh.mk m.fillM.verts (m.fillM.tris ++ m.fillM.loops.1.flatMap fanOf) = m.fillM
    rw [h1]; simp
  unfold fillR
  rw [h1, h2]
  simp [hl]
end Go.Abs

