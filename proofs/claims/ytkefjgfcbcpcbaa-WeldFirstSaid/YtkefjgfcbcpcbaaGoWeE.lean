/- Part of the abstract machine on which the proof stands: its values, code and their soundness against the model. -/
import Derived.Test.YtkefjgfcbcpcbaaGoWeC
set_option linter.unusedVariables false
set_option linter.unusedSimpArgs false
namespace Go.Abs

def findV (l : List V3) (v : V3) : Int := if v ∈ l then idxV l v else -1
def FindC (P : Program) (f : FuncId) : Prop := ∀ (l : List V3) (v : V3), l.length ≤ 1000000 → CallIs P f [vsV l, v.enc] (.i .i64 (findV l v))
def usedB (m : Mesh) (v : V3) : Bool := m.tris.any fun t => decide (v ∈ m.cor t)
def UsedBC (P : Program) (f : FuncId) : Prop := ∀ (m : Mesh) (v : V3), m.check = 0 → CallIs P f [m.enc, v.enc] (.b (usedB m v))
def InsertC (P : Program) (f : FuncId) : Prop := ∀ (l : List V3) (v : V3), l.length ≤ 1000000 → l.Pairwise V3.lt → v ∉ l → CallIs P f [vsV l, v.enc] (vsV (insG V3.lt v l))

/-- How many come before. -/
def posV (l : List V3) (v : V3) : Nat := l.countP fun x => decide (V3.lt x v)
theorem posV_le (l : List V3) (v : V3) : posV l v ≤ l.length := List.countP_le_length
theorem posV_spec {v : V3} : ∀ {l : List V3}, l.Pairwise V3.lt → ∀ {j : Nat} {u : V3}, l[j]? = some u → (V3.lt u v ↔ j < posV l v)
  | [], _, j, u, h => by simp at h
  | x :: r, ha, j, u, h => by
    have hc := List.pairwise_cons.1 ha
    by_cases hx : V3.lt x v
    · have hp : posV (x :: r) v = posV r v + 1 := by simp [posV, List.countP_cons, hx]
      cases j with
      | zero => simp at h; subst h; simp [hp, hx]
      | succ j => simp at h; rw [posV_spec hc.2 h, hp]; omega
    · have h0 : posV r v = 0 := by
        unfold posV
        rw [List.countP_eq_zero]
        intro w hw
        simp only [decide_eq_true_eq]
        exact fun h1 => hx (V3.ltO.tr (hc.1 w hw) h1)
      have hp : posV (x :: r) v = 0 := by unfold posV at h0 ⊢; simp [List.countP_cons, hx, h0]
      rw [hp]
      simp only [Nat.not_lt_zero, iff_false]
      cases j with
      | zero => simp at h; subst h; exact hx
      | succ j =>
        simp at h
        rw [posV_spec hc.2 h, h0]; omega
theorem insG_pos {v : V3} {l : List V3} (h : l.Pairwise V3.lt) (hv : v ∉ l) : insG V3.lt v l = l.take (posV l v) ++ v :: l.drop (posV l v) := by
  have h' : (l.take (posV l v) ++ l.drop (posV l v)).Pairwise V3.lt := by rw [List.take_append_drop]; exact h
  have hp := List.pairwise_append.1 h'
  refine ascG_ext V3.ltO (insG_asc V3.ltO h) ?_ fun a => ?_
  · rw [List.pairwise_append]
    have hlow : ∀ u ∈ l.take (posV l v), V3.lt u v := by
      intro u hu
      obtain ⟨j, hj⟩ := List.getElem?_of_mem hu
      rw [List.getElem?_take] at hj
      split at hj
      · rename_i hjl
        exact (posV_spec h hj).2 hjl
      · simp at hj
    have hhigh : ∀ u ∈ l.drop (posV l v), V3.lt v u := by
      intro u hu
      obtain ⟨j, hj⟩ := List.getElem?_of_mem hu
      rw [List.getElem?_drop] at hj
      refine Decidable.byContradiction fun hc => ?_
      have h1 : ¬ V3.lt u v := fun h2 => by have := (posV_spec h hj).1 h2; omega
      have h2 : u = v := V3.ltO.tot h1 hc
      exact hv (by rw [← h2]; exact List.mem_of_getElem? hj)
    refine ⟨hp.1, List.pairwise_cons.2 ⟨hhigh, hp.2.1⟩, fun a ha b hb => ?_⟩
    rcases List.mem_cons.1 hb with rfl | hb
    · exact hlow a ha
    · exact hp.2.2 a ha b hb
  · rw [mem_insG, List.mem_append, List.mem_cons]
    have : a ∈ l ↔ a ∈ l.take (posV l v) ∨ a ∈ l.drop (posV l v) := by rw [← List.mem_append, List.take_append_drop]
    rw [this]
    constructor
    · rintro (h1 | h1 | h1) <;> simp [h1]
    · rintro (h1 | h1 | h1) <;> simp [h1]
/-- The list under way. -/
def insK (l : List V3) (v : V3) (k : Nat) : List V3 := if posV l v < k then l.take (posV l v) ++ v :: (l.take k).drop (posV l v) else l.take k
theorem insK_end {v : V3} {l : List V3} (h : l.Pairwise V3.lt) (hv : v ∉ l) : (if posV l v < l.length then insK l v l.length else insK l v l.length ++ [v]) = insG V3.lt v l := by
  rw [insG_pos h hv]
  have hle := posV_le l v
  unfold insK
  by_cases hp : posV l v < l.length
  · rw [if_pos hp, if_pos hp, List.take_length]
  · have he : posV l v = l.length := by omega
    rw [if_neg hp, if_neg hp, he, List.take_length, List.drop_length]
theorem insK_len (l : List V3) (v : V3) (k : Nat) (hk : k ≤ l.length) : (insK l v k).length = if posV l v < k then k + 1 else k := by
  unfold insK
  split
  · rename_i h
    simp; omega
  · simp; omega

theorem insK_succ (l : List V3) (v : V3) {k : Nat} {u : V3} (h : l[k]? = some u) : insK l v (k + 1) = insK l v k ++ (if posV l v = k then [v, u] else [u]) := by
  have hk := (List.getElem?_eq_some_iff.1 h).1
  have e1 : l.take (k + 1) = l.take k ++ [u] := by rw [List.take_add_one, h]; rfl
  have e2 : (l.take k).length = k := by simp; omega
  unfold insK
  rcases Nat.lt_trichotomy (posV l v) k with hp | hp | hp
  · rw [if_pos (by omega), if_pos hp, if_neg (by omega), e1, List.drop_append_of_le_length (by omega)]
    simp
  · rw [if_pos (by omega), if_neg (by omega), if_pos hp, e1, hp, List.drop_append_of_le_length (by omega), List.drop_of_length_le (by omega)]
    simp
  · rw [if_neg (by omega), if_neg (by omega), if_neg (by omega), e1]
theorem idxOf_first : ∀ {l : List V3} {k : Nat} {v : V3}, l[k]? = some v → v ∉ l.take k → l.idxOf v = k
  | [], k, v, h, _ => by simp at h
  | x :: r, 0, v, h, _ => by simp at h; subst h; simp [List.idxOf_cons]
  | x :: r, k + 1, v, h, hn => by
    simp only [List.getElem?_cons_succ] at h
    simp only [List.take_succ_cons, List.mem_cons, not_or] at hn
    have hb : (x == v) = false := by simp; exact fun h => hn.1 h.symm
    rw [List.idxOf_cons, hb, idxOf_first h hn.2]; rfl
theorem v3_beq {a b : V3} (h : a ≠ b) : ((a.x == b.x) && ((a.y == b.y) && (a.z == b.z))) = false := by
  rw [Bool.eq_false_iff]
  intro hh
  simp only [Bool.and_eq_true, beq_iff_eq] at hh
  exact h (by cases a; cases b; simp_all)

section
variable {P : Program} (hm : P.follows .mixedOrders = true)
include hm

set_option maxHeartbeats 1000000 in
theorem ref09_find_ok {f : FuncId} (hf : FnOk P f ref09_find.c ref09_find.r ref09_find.n) : FindC P f := by
  intro l v hl
  refine PureC.is (pure_of hm hf (Nat.le_of_ble_eq_true rfl) ?_) rfl
  unfold ref09_find.c
  simp [go_sem, V3.enc, vcs, vsV]
  refine AS_loop (α := Nat) (fun k => k ≤ l.length ∧ v ∉ l.take k) (fun k => ⟨[(0, vsV l), (3, .p 0 1 0 0), (5, .i .i64 k)], [.arr 1 3 [v.cs]]⟩) (fun k => l.length - k) 0 ⟨Nat.zero_le _, by simp⟩ ?_ ?_
  · simp [go_sem, vsV, vcs]
  · rintro k ⟨hk, hnot⟩
    by_cases hkl : k = l.length
    · subst hkl
      rw [List.take_length] at hnot
      simp [go_sem, vsV, vcs, ref09_find.r, findV, hnot]
    · have hlt : k < l.length := by omega
      have hp : l[k]? = some l[k] := List.getElem?_eq_getElem hlt
      generalize l[k] = u at hp
      obtain ⟨_, hp'⟩ := List.getElem?_eq_some_iff.1 hp
      by_cases hu : u = v
      · subst hu
        have hmem := List.mem_of_getElem? hp
        have hidx : idxV l u = k := by
          have h1 : l.idxOf u = k := idxOf_first hp hnot
          unfold idxV; omega
        simp (disch := omega) [go_sem, vsV, vcs, hlt, hp, hp', ref09_find.r, findV, hmem, hidx, wrap64_small]
      · have hne : ¬ (u.x = v.x ∧ u.y = v.y ∧ u.z = v.z) := by
          rintro ⟨h1, h2, h3⟩
          exact hu (by cases u; cases v; simp_all)
        simp (disch := omega) [go_sem, vsV, vcs, hlt, hp, hp', hne, wrap64_small]
        intro _
        refine ⟨k + 1, ⟨by omega, ?_⟩, by omega, rfl⟩
        rw [List.take_add_one, hp, List.mem_append]
        rintro (h | h)
        · exact hnot h
        · simp at h; exact hu h.symm

set_option maxRecDepth 20000 in
set_option maxHeartbeats 4000000 in
theorem ref09_used_ok {f : FuncId} (hf : FnOk P f ref09_used.c ref09_used.r ref09_used.n) : UsedBC P f := by
  intro m v hz
  obtain ⟨z1, z2, z3, z4⟩ := Mesh.check_zero.1 hz
  refine PureC.is (pure_of hm hf (Nat.le_of_ble_eq_true rfl) ?_) rfl
  unfold ref09_used.c
  simp [go_sem, V3.enc, vcs, Mesh.enc, Mesh.cs, vsV, tsV]
  refine AS_loop (α := Nat) (fun k => k ≤ m.tris.length ∧ ∀ t ∈ m.tris.take k, v ∉ m.cor t) (fun k => ⟨[(2, .p 0 1 0 0), (3, .p 1 1 0 0), (5, .i .i64 k)], [.arr 1 2 [m.cs], .arr 1 3 [v.cs]]⟩) (fun k => m.tris.length - k) 0 ⟨Nat.zero_le _, by simp⟩ ?_ ?_
  · simp [go_sem, Mesh.cs, vsV, tsV, vcs]
  · rintro k ⟨hk, hnot⟩
    by_cases hkl : k = m.tris.length
    · subst hkl
      rw [List.take_length] at hnot
      have hb : usedB m v = false := by
        rw [Bool.eq_false_iff]
        intro h
        obtain ⟨t, ht, h2⟩ := List.any_eq_true.1 h
        exact hnot t ht (of_decide_eq_true h2)
      simp [go_sem, Mesh.cs, vsV, tsV, vcs, ref09_used.r, hb]
    · have hlt : k < m.tris.length := by omega
      have hp : m.tris[k]? = some m.tris[k] := List.getElem?_eq_getElem hlt
      have htm : m.tris[k] ∈ m.tris := List.getElem_mem _
      generalize m.tris[k] = t at hp htm
      obtain ⟨_, hp'⟩ := List.getElem?_eq_some_iff.1 hp
      obtain ⟨i0, i1, j0, j1, l0, l1⟩ := tok hz htm
      have g1 := mv_get i0 i1
      have g2 := mv_get j0 j1
      have g3 := mv_get l0 l1
      obtain ⟨q1, r1⟩ := List.getElem?_eq_some_iff.1 g1
      obtain ⟨q2, r2⟩ := List.getElem?_eq_some_iff.1 g2
      obtain ⟨q3, r3⟩ := List.getElem?_eq_some_iff.1 g3
      have hcor : m.cor t = [m.v t.a, m.v t.b, m.v t.c] := rfl
      generalize m.v t.a = va at *
      generalize m.v t.b = vb at *
      generalize m.v t.c = vc at *
      by_cases hu : v ∈ m.cor t
      · have hb : usedB m v = true := List.any_eq_true.2 ⟨t, htm, by simpa using hu⟩
        rw [hcor] at hu
        by_cases e1 : va = v
        · subst e1
          simp (disch := omega) [go_sem, Mesh.cs, vsV, tsV, hlt, hp, hp', tcs, vcs, i0, j0, l0, q1, q2, q3, g1, g2, g3, r1, r2, r3, ref09_used.r, hb]
        · have d1 : ((va.x == v.x) && ((va.y == v.y) && (va.z == v.z))) = false := v3_beq e1
          by_cases e2 : vb = v
          · subst e2
            simp (disch := omega) [go_sem, Mesh.cs, vsV, tsV, hlt, hp, hp', tcs, vcs, i0, j0, l0, q1, q2, q3, g1, g2, g3, r1, r2, r3, ref09_used.r, hb, d1]
          · have d2 : ((vb.x == v.x) && ((vb.y == v.y) && (vb.z == v.z))) = false := v3_beq e2
            have e3 : vc = v := by
              simp only [List.mem_cons, List.not_mem_nil, or_false] at hu
              rcases hu with h | h | h
              · exact absurd h.symm e1
              · exact absurd h.symm e2
              · exact h.symm
            subst e3
            simp (disch := omega) [go_sem, Mesh.cs, vsV, tsV, hlt, hp, hp', tcs, vcs, i0, j0, l0, q1, q2, q3, g1, g2, g3, r1, r2, r3, ref09_used.r, hb, d1, d2]
      · have hu' := hu
        rw [hcor] at hu'
        simp only [List.mem_cons, List.not_mem_nil, or_false, not_or] at hu'
        have d1 : ((va.x == v.x) && ((va.y == v.y) && (va.z == v.z))) = false := v3_beq (fun h => hu'.1 h.symm)
        have d2 : ((vb.x == v.x) && ((vb.y == v.y) && (vb.z == v.z))) = false := v3_beq (fun h => hu'.2.1 h.symm)
        have d3 : ((vc.x == v.x) && ((vc.y == v.y) && (vc.z == v.z))) = false := v3_beq (fun h => hu'.2.2 h.symm)
        simp (disch := omega) [go_sem, Mesh.cs, vsV, tsV, hlt, hp, hp', tcs, vcs, i0, j0, l0, q1, q2, q3, g1, g2, g3, r1, r2, r3, d1, d2, d3, wrap64_small]
        refine ⟨k + 1, ⟨by omega, ?_⟩, by omega, rfl⟩
        rw [List.take_add_one, hp]
        intro s hs
        rcases List.mem_append.1 hs with h | h
        · exact hnot s h
        · simp at h; subst h; exact hu

set_option maxHeartbeats 4000000 in
theorem ref09_insert_ok {f fl : FuncId} (hf : FnOk P f (ref09_insert.c fl) ref09_insert.r ref09_insert.n) (hL : LessC P fl) : InsertC P f := by
  intro l v hl ha hv
  refine PureC.is (pure_of hm hf (Nat.le_of_ble_eq_true rfl) ?_) rfl
  unfold ref09_insert.c
  simp [go_sem, V3.enc, vcs, vsV]
  refine AS_loopG [.t 5 3] (α := Nat) (fun k => k ≤ l.length)
    (fun k => ⟨[(0, vsV l), (3, .p 0 1 0 0), (5, .own 1 ((insK l v k).length + 1) 0 (insK l v k).length), (6, .b (decide (posV l v < k))), (7, .i .i64 k)], [.arr 1 3 [v.cs], .arr ((insK l v k).length + 1) 3 ((insK l v k).map V3.cs)]⟩) (fun k => l.length - k) 0 (Nat.zero_le _) ?_ ?_
  · simp [go_sem, vsV, vcs, insK]
  · intro k hk
    have hil : (insK l v k).length ≤ k + 1 := by rw [insK_len l v k hk]; split <;> omega
    have hend := insK_end ha hv
    have hple := posV_le l v
    have ht : List.take (insK l v k).length ((insK l v k).map V3.cs) = (insK l v k).map V3.cs := List.take_of_length_le (by simp)
    by_cases hkl : k = l.length
    · subst hkl
      by_cases hd : posV l v < l.length
      · rw [if_pos hd] at hend
        rw [hend] at *
        simp [go_sem, vsV, vcs, hd, ref09_insert.r, ht]
      · rw [if_neg hd] at hend
        rw [← hend]
        simp (disch := omega) [go_sem, vsV, vcs, hd, ref09_insert.r, ht]
        have ht2 : List.take ((insK l v l.length).length + 1) ((insK l v l.length).map V3.cs ++ [[.i .i64 v.x, .i .i64 v.y, .i .i64 v.z]]) = (insK l v l.length).map V3.cs ++ [[.i .i64 v.x, .i .i64 v.y, .i .i64 v.z]] := List.take_of_length_le (by simp)
        refine ⟨⟨by omega, by omega⟩, ?_⟩
        rw [ht2, if_pos]
        · rfl
        · intro x hx y hy
          rcases List.mem_append.1 hx with h | h
          · obtain ⟨q, _, rfl⟩ := List.mem_map.1 h
            exact of_eq_true (vcs_isD q) y hy
          · simp at h; subst h
            exact of_eq_true (vcs_isD v) y hy
    · have hlt : k < l.length := by omega
      have hp : l[k]? = some l[k] := List.getElem?_eq_getElem hlt
      have hsp := posV_spec (v := v) ha hp
      generalize l[k] = u at hp hsp
      obtain ⟨_, hp'⟩ := List.getElem?_eq_some_iff.1 hp
      have hne : u ≠ v := by rintro rfl; exact hv (List.mem_of_getElem? hp)
      by_cases hd : posV l v < k
      · simp (disch := omega) [go_sem, vsV, vcs, hd, hlt, hp, hp', ht, wrap64_small]
        have hs := insK_succ l v hp
        rw [if_neg (by omega)] at hs
        exact ⟨⟨by omega, by omega⟩, k + 1, by omega, by omega, ⟨by rw [hs]; simp, by omega, rfl⟩, by rw [hs]; simp, by rw [hs, List.map_append]; rfl⟩
      · simp (disch := omega) [go_sem, vsV, vcs, hd, hlt, hp, hp', ht]
        refine DCall_is (hL v u) ?_
        by_cases hpk : posV l v = k
        · have h1 : V3.lt v u := Decidable.byContradiction fun h => hne (V3.ltO.tot (fun h2 => by have := hsp.1 h2; omega) h)
          simp (disch := omega) [go_sem, vsV, vcs, hd, hlt, hp, hp', ht, h1, wrap64_small]
          have hs := insK_succ l v hp
          rw [if_pos hpk] at hs
          refine ⟨⟨by omega, by omega⟩, ⟨by omega, by omega⟩, k + 1, by omega, by omega, ⟨by rw [hs]; simp, by omega, rfl⟩, by rw [hs]; simp, ?_⟩
          rw [hs, List.map_append, List.take_of_length_le (by simp), List.append_assoc]; rfl
        · have h1 : ¬ V3.lt v u := fun h => V3.ltO.asymm h (hsp.2 (by omega))
          simp (disch := omega) [go_sem, vsV, vcs, hd, hlt, hp, hp', ht, h1, wrap64_small]
          have hs := insK_succ l v hp
          rw [if_neg hpk] at hs
          exact ⟨⟨by omega, by omega⟩, k + 1, by omega, by omega, ⟨by rw [hs]; simp, by omega, rfl⟩, by rw [hs]; simp, by rw [hs, List.map_append]; rfl⟩

/-- The points that stand in the first k, and are used. -/
def rvK (m : Mesh) (k : Nat) : List V3 := ascG V3.lt ((m.verts.take k).filter (usedB m))
omit hm in
theorem rvK_mem {m : Mesh} {k : Nat} {v : V3} : v ∈ rvK m k ↔ v ∈ m.verts.take k ∧ usedB m v = true := by unfold rvK; rw [mem_ascG, List.mem_filter]
omit hm in
theorem rvK_asc (m : Mesh) (k : Nat) : (rvK m k).Pairwise V3.lt := ascG_asc V3.ltO _
omit hm in
theorem rvK_len (m : Mesh) (k : Nat) : (rvK m k).length ≤ k := by
  have := nodup_len (ascG_nodup V3.ltO (rvK_asc m k)) (k := m.verts.take k) fun a ha => (rvK_mem.1 ha).1
  simp at this; omega
omit hm in
theorem rvK_succ {m : Mesh} {k : Nat} {v : V3} (h : m.verts[k]? = some v) : rvK m (k + 1) = if v ∉ rvK m k ∧ usedB m v = true then insG V3.lt v (rvK m k) else rvK m k := by
  have hs : m.verts.take (k + 1) = m.verts.take k ++ [v] := by rw [List.take_add_one, h]; rfl
  split
  · rename_i hc
    refine ascG_ext V3.ltO (rvK_asc _ _) (insG_asc V3.ltO (rvK_asc _ _)) fun a => ?_
    rw [mem_insG, rvK_mem, rvK_mem, hs, List.mem_append, List.mem_singleton]
    constructor
    · rintro ⟨h1 | rfl, h2⟩
      · exact .inr ⟨h1, h2⟩
      · exact .inl rfl
    · rintro (rfl | ⟨h1, h2⟩)
      · exact ⟨.inr rfl, hc.2⟩
      · exact ⟨.inl h1, h2⟩
  · rename_i hc
    refine ascG_ext V3.ltO (rvK_asc _ _) (rvK_asc _ _) fun a => ?_
    rw [rvK_mem, rvK_mem, hs, List.mem_append, List.mem_singleton]
    constructor
    · rintro ⟨h1 | rfl, h2⟩
      · exact ⟨h1, h2⟩
      · refine Decidable.byContradiction fun hn => hc ⟨fun hm => hn (rvK_mem.1 hm), h2⟩
    · rintro ⟨h1, h2⟩
      exact ⟨.inl h1, h2⟩
omit hm in
theorem rvK_end {m : Mesh} (hz : m.check = 0) : rvK m m.verts.length = m.wverts := by
  refine ascG_ext V3.ltO (rvK_asc _ _) (wverts_asc m) fun a => ?_
  rw [rvK_mem, List.take_length, mem_wverts]
  constructor
  · rintro ⟨_, h⟩
    obtain ⟨t, ht, h2⟩ := List.any_eq_true.1 h
    exact ⟨t, ht, of_decide_eq_true h2⟩
  · rintro ⟨t, ht, hv⟩
    refine ⟨?_, List.any_eq_true.2 ⟨t, ht, by simpa using hv⟩⟩
    obtain ⟨h1, h2, h3, h4, h5, h6⟩ := tok hz ht
    simp only [Mesh.cor, List.mem_cons, List.not_mem_nil, or_false] at hv
    rcases hv with rfl | rfl | rfl
    · exact Mesh.v_mem h1 h2
    · exact Mesh.v_mem h3 h4
    · exact Mesh.v_mem h5 h6
/-- A slice that is nil as long as it is empty. -/
def nlV (l : List V3) : V := apV 3 (l.map V3.cs)
omit hm in
theorem nlV_le (l : List V3) : Le (nlV l) (vsV l) := .inl (.inl (apV_le 3 _))
omit hm in
theorem nlV_cl (l : List V3) (n : Nat) : V.cl n (nlV l) = true := by unfold nlV apV; split <;> rfl
omit hm in
theorem nlV_ne {l : List V3} (h : l ≠ []) : nlV l = .l 3 (l.map V3.cs) := by unfold nlV apV; cases l <;> simp_all
omit hm in
theorem insG_ne (v : V3) (l : List V3) : insG V3.lt v l ≠ [] := List.ne_nil_of_mem (mem_insG.2 (.inl rfl))

set_option maxRecDepth 20000 in
set_option maxHeartbeats 8000000 in
theorem ref09_Weld_ok {f fc ff fu fi : FuncId} (hf : FnOk P f (ref09_Weld.c fc ff fu fi) ref09_Weld.r ref09_Weld.n) (hc : CheckC P fc) (hF : FindC P ff) (hu : UsedBC P fu) (hi : InsertC P fi) : WeldC P f := by
  intro m
  by_cases hz : m.check = 0
  case neg =>
    have he : weldR m = (noMesh, 0, m.check) := by simp [weldR, hz]
    rw [he]
    refine CallIs.res (r := .t [.a [.nil, .nil], .i .i64 0, .i .i64 m.check]) ?_ (weldV_no 0 m.check)
    refine PureC.is (pure_of hm hf (Nat.le_of_ble_eq_true rfl) ?_) rfl
    unfold ref09_Weld.c
    simp [go_sem, Mesh.enc, Mesh.cs, vsV, tsV]
    refine ACall_is (hc m) ?_
    simp [go_sem, hz, ref09_Weld.r]
  have he : weldR m = (m.weldM, (m.verts.length : Int) - m.wverts.length, 0) := by simp [weldR, hz]
  rw [he]
  obtain ⟨z1, z2, z3, z4⟩ := Mesh.check_zero.1 hz
  have hwl := wverts_len hz
  refine CallIs.res (r := .t [.a [nlV m.wverts, tsV m.weldM.tris], .i .i64 ((m.verts.length : Int) - m.wverts.length), .i .i64 0]) ?_ (.inr ⟨_, _, rfl, rfl, .inr ⟨_, _, rfl, rfl, apV_le 3 _, Le0.refl _, trivial⟩, Le1.refl _, Le1.refl _, trivial⟩)
  refine PureC.is (pure_of hm hf (Nat.le_of_ble_eq_true rfl) ?_) rfl
  unfold ref09_Weld.c
  simp [go_sem, Mesh.enc, Mesh.cs, vsV, tsV]
  refine ACall_is (hc m) ?_
  simp [go_sem, hz]
  refine AS_loop (α := Nat) (fun k => k ≤ m.verts.length)
    (fun k => ⟨[(1, .p 0 1 0 0), (2, .p 1 1 0 0), (6, nlV (rvK m k)), (7, .i .i64 k)], [.arr 1 2 [m.cs], .arr 1 2 [[.nil, .nil]]]⟩)
    (fun k => m.verts.length - k) 0 (Nat.zero_le _) ?_ ?_
  · simp [go_sem, Mesh.cs, vsV, tsV, rvK, nlV, apV, ascG]
  · intro k hk
    by_cases hkl : k = m.verts.length
    · subst hkl
      rw [rvK_end hz]
      simp [go_sem, Mesh.cs, vsV, tsV]
      refine AS_loopG [.t 8 3] (α := Nat) (fun k => k ≤ m.tris.length)
        (fun k => ⟨[(1, .p 0 1 0 0), (2, .p 1 1 0 0), (6, nlV m.wverts), (8, .own 2 (k + 1) 0 k), (9, .i .i64 k)],
          [.arr 1 2 [m.cs], .arr 1 2 [[.nil, .nil]], .arr (k + 1) 3 (((m.tris.take k).map (wtri m m.wverts)).map T3.cs)]⟩)
        (fun k => m.tris.length - k) 0 (Nat.zero_le _) ?_ ?_
      · simp [go_sem, Mesh.cs, vsV, tsV]
        exact .inr (nlV_cl _ _)
      · intro k hk
        by_cases hkl : k = m.tris.length
        · subst hkl
          by_cases h0 : m.wverts = []
          · have hn : nlV m.wverts = .nil := by rw [h0]; rfl
            have hl0 : m.wverts.length = 0 := by rw [h0]; rfl
            simp (disch := omega) [go_sem, Mesh.cs, vsV, tsV, wrap64_small, ref09_Weld.r, hn, hl0, Mesh.weldM, V.okA, T3.cs]
          · have hn := nlV_ne h0
            simp (disch := omega) [go_sem, Mesh.cs, vsV, tsV, wrap64_small, ref09_Weld.r, hn, Mesh.weldM, V.okA, T3.cs]
        · have hlt : k < m.tris.length := by omega
          have hp : m.tris[k]? = some m.tris[k] := List.getElem?_eq_getElem hlt
          have htm : m.tris[k] ∈ m.tris := List.getElem_mem _
          generalize m.tris[k] = t at hp htm
          obtain ⟨_, hp'⟩ := List.getElem?_eq_some_iff.1 hp
          obtain ⟨i0, i1, j0, j1, l0, l1⟩ := tok hz htm
          obtain ⟨c1, c2, c3⟩ := cor_mem htm
          have g1 := mv_get i0 i1
          have g2 := mv_get j0 j1
          have g3 := mv_get l0 l1
          obtain ⟨q1, r1⟩ := List.getElem?_eq_some_iff.1 g1
          obtain ⟨q2, r2⟩ := List.getElem?_eq_some_iff.1 g2
          obtain ⟨q3, r3⟩ := List.getElem?_eq_some_iff.1 g3
          have hwt : wtri m m.wverts t = ⟨idxV m.wverts (m.v t.a), idxV m.wverts (m.v t.b), idxV m.wverts (m.v t.c)⟩ := rfl
          have f1 := (hF m.wverts (m.v t.a) (by omega)).le (us := [nlV m.wverts, (m.v t.a).enc]) ⟨nlV_le _, Le.refl _, trivial⟩ (Le.refl _)
          have f2 := (hF m.wverts (m.v t.b) (by omega)).le (us := [nlV m.wverts, (m.v t.b).enc]) ⟨nlV_le _, Le.refl _, trivial⟩ (Le.refl _)
          have f3 := (hF m.wverts (m.v t.c) (by omega)).le (us := [nlV m.wverts, (m.v t.c).enc]) ⟨nlV_le _, Le.refl _, trivial⟩ (Le.refl _)
          simp only [findV, c1, c2, c3, if_true, V3.enc, V3.cs] at f1 f2 f3
          generalize m.v t.a = va at *
          generalize m.v t.b = vb at *
          generalize m.v t.c = vc at *
          simp (disch := omega) [go_sem, Mesh.cs, vsV, tsV, hlt, hp, hp', tcs, vcs, i0, j0, l0, q1, q2, q3, g1, g2, g3, r1, r2, r3]
          refine DCall_is f1 ?_
          simp (disch := omega) [go_sem, Mesh.cs, vsV, tsV, hlt, hp, hp', tcs, vcs, i0, j0, l0, q1, q2, q3, g1, g2, g3, r1, r2, r3]
          refine DCall_is f2 ?_
          simp (disch := omega) [go_sem, Mesh.cs, vsV, tsV, hlt, hp, hp', tcs, vcs, i0, j0, l0, q1, q2, q3, g1, g2, g3, r1, r2, r3]
          refine DCall_is f3 ?_
          simp (disch := omega) [go_sem, wrap64_small]
          refine ⟨⟨by omega, by omega⟩, k + 1, by omega, by omega, ⟨.inr (nlV_cl _ _), rfl, rfl⟩, ⟨rfl, ?_⟩, ?_⟩
          · rw [List.take_take, Nat.min_self, List.take_add_one, List.getElem?_map, hp]
            simp [hwt, tcs]
          · intro el hel x hx
            obtain ⟨s, _, rfl⟩ := List.mem_map.1 (List.mem_of_mem_take hel)
            exact of_eq_true (t3c_cl _ 3) x hx
    · have hlt : k < m.verts.length := by omega
      have hp : m.verts[k]? = some m.verts[k] := List.getElem?_eq_getElem hlt
      have hsu := rvK_succ hp
      generalize m.verts[k] = v at hp hsu
      obtain ⟨_, hp'⟩ := List.getElem?_eq_some_iff.1 hp
      have hrl := rvK_len m k
      have q1 := (hF (rvK m k) v (by omega)).le (us := [nlV (rvK m k), v.enc]) ⟨nlV_le _, Le.refl _, trivial⟩ (Le.refl _)
      have q2 := hu m v hz
      simp only [V3.enc, V3.cs, Mesh.enc, Mesh.cs, vsV, tsV] at q1 q2
      simp (disch := omega) [go_sem, Mesh.cs, vsV, tsV, hlt, hp, hp', vcs]
      refine DCall_is q1 ?_
      by_cases hmem : v ∈ rvK m k
      · have h0 := idxV_range hmem
        rw [if_neg (fun h => h.1 hmem)] at hsu
        simp (disch := omega) [go_sem, Mesh.cs, vsV, tsV, hlt, hp, hp', vcs, findV, hmem, h0, show ¬ idxV (rvK m k) v < 0 by omega, wrap64_small]
        exact ⟨k + 1, by omega, by omega, .inr ⟨by rw [hsu], nlV_cl _ _⟩, rfl⟩
      · simp (disch := omega) [go_sem, Mesh.cs, vsV, tsV, hlt, hp, hp', vcs, findV, hmem, wrap64_small]
        refine DCall_is q2 ?_
        cases hub : usedB m v
        · rw [if_neg (fun h => by rw [hub] at h; simp at h)] at hsu
          simp (disch := omega) [go_sem, Mesh.cs, vsV, tsV, hlt, hp, hp', vcs, wrap64_small]
          exact ⟨k + 1, by omega, by omega, .inr ⟨by rw [hsu], nlV_cl _ _⟩, rfl⟩
        · rw [if_pos ⟨hmem, hub⟩] at hsu
          have q3 := (hi (rvK m k) v (by omega) (rvK_asc m k) hmem).le (us := [nlV (rvK m k), v.enc]) ⟨nlV_le _, Le.refl _, trivial⟩ (Le.refl _)
          simp only [V3.enc, V3.cs] at q3
          simp (disch := omega) [go_sem, Mesh.cs, vsV, tsV, hlt, hp, hp', vcs]
          refine ACall_is q3 ?_
          simp (disch := omega) [go_sem, wrap64_small, vsV]
          exact ⟨k + 1, by omega, by omega, .inr ⟨by rw [hsu, nlV_ne (insG_ne _ _)], nlV_cl _ _⟩, rfl⟩
end
end Go.Abs

set_option linter.unusedVariables false
set_option linter.unusedSimpArgs false
namespace Go.Abs

def Mesh.few (m : Mesh) : Mesh := ⟨m.verts.take 60, m.tris.take 40⟩
def FewC (P : Program) (f : FuncId) : Prop := ∀ m : Mesh, m.verts.length ≤ 9223372036854775807 → m.tris.length ≤ 9223372036854775807 → CallIs P f [m.enc] m.few.enc
def SameWC (P : Program) (f : FuncId) : Prop := ∀ m : Mesh, m.verts.length ≤ 1000000 → m.tris.length ≤ 1000000 → CallIs P f [m.enc, m.enc] (.b true)

def awM : Mesh := ⟨[⟨1, 0, 0⟩, ⟨0, 0, 0⟩, ⟨0, 1, 0⟩, ⟨0, 0, 0⟩, ⟨9, 9, 9⟩], [⟨0, 2, 3⟩]⟩
theorem awM_weld : weldR awM = (⟨[⟨0, 0, 0⟩, ⟨0, 1, 0⟩, ⟨1, 0, 0⟩], [⟨2, 1, 0⟩]⟩, 2, 0) := by decide +kernel
theorem few_len (m : Mesh) : m.few.verts.length ≤ 60 ∧ m.few.tris.length ≤ 40 := by simp [Mesh.few]; omega
theorem weldR_len (m : Mesh) (hv : m.verts.length ≤ 60) (ht : m.tris.length ≤ 40) : (weldR m).1.verts.length ≤ 60 ∧ (weldR m).1.tris.length ≤ 40 := by
  unfold weldR
  split
  · rename_i hz
    have := wverts_len hz
    simp [Mesh.weldM]; omega
  · simp [noMesh]

section
variable {P : Program} (hm : P.follows .mixedOrders = true)
include hm

theorem law09_few_ok {f : FuncId} (hf : FnOk P f law09_few.c law09_few.r law09_few.n) : FewC P f := by
  intro m h1 h2
  refine PureC.is (pure_of hm hf (Nat.le_of_ble_eq_true rfl) ?_) rfl
  unfold law09_few.c
  by_cases c1 : (60 : Int) < m.verts.length <;> by_cases c2 : (40 : Int) < m.tris.length
  · have e1 : 60 ≤ m.verts.length := by omega
    have e2 : 40 ≤ m.tris.length := by omega
    simp [go_sem, Mesh.enc, Mesh.cs, vsV, tsV, c1, c2, e1, e2, law09_few.r, Mesh.few, List.map_take]
  · have e1 : 60 ≤ m.verts.length := by omega
    have e2 : m.tris.take 40 = m.tris := List.take_of_length_le (by omega)
    simp [go_sem, Mesh.enc, Mesh.cs, vsV, tsV, c1, c2, e1, e2, law09_few.r, Mesh.few, List.map_take]
  · have e1 : m.verts.take 60 = m.verts := List.take_of_length_le (by omega)
    have e2 : 40 ≤ m.tris.length := by omega
    simp [go_sem, Mesh.enc, Mesh.cs, vsV, tsV, c1, c2, e1, e2, law09_few.r, Mesh.few, List.map_take]
  · have e1 : m.verts.take 60 = m.verts := List.take_of_length_le (by omega)
    have e2 : m.tris.take 40 = m.tris := List.take_of_length_le (by omega)
    simp [go_sem, Mesh.enc, Mesh.cs, vsV, tsV, c1, c2, e1, e2, law09_few.r, Mesh.few, List.map_take]

set_option maxHeartbeats 1000000 in
theorem law09_same_ok {f : FuncId} (hf : FnOk P f law09_same.c law09_same.r law09_same.n) : SameWC P f := by
  intro m h1 h2
  refine PureC.is (pure_of hm hf (Nat.le_of_ble_eq_true rfl) ?_) rfl
  unfold law09_same.c
  simp [go_sem, Mesh.enc, Mesh.cs, vsV, tsV]
  refine AS_loop (α := Nat) (fun k => k ≤ m.verts.length) (fun k => ⟨[(2, .p 0 1 0 0), (3, .p 1 1 0 0), (5, .i .i64 k)], [.arr 1 2 [m.cs], .arr 1 2 [m.cs]]⟩) (fun k => m.verts.length - k) 0 (Nat.zero_le _) ?_ ?_
  · simp [go_sem, Mesh.cs, vsV, tsV]
  · intro k hk
    by_cases hkl : k = m.verts.length
    · subst hkl
      simp [go_sem, Mesh.cs, vsV, tsV]
      refine AS_loop (α := Nat) (fun k => k ≤ m.tris.length) (fun k => ⟨[(2, .p 0 1 0 0), (3, .p 1 1 0 0), (6, .i .i64 k)], [.arr 1 2 [m.cs], .arr 1 2 [m.cs]]⟩) (fun k => m.tris.length - k) 0 (Nat.zero_le _) ?_ ?_
      · simp [go_sem, Mesh.cs, vsV, tsV]
      · intro j hj
        by_cases hjl : j = m.tris.length
        · subst hjl
          simp [go_sem, Mesh.cs, vsV, tsV, law09_same.r]
        · have hlt : j < m.tris.length := by omega
          have hp : m.tris[j]? = some m.tris[j] := List.getElem?_eq_getElem hlt
          generalize m.tris[j] = t at hp
          obtain ⟨_, hp'⟩ := List.getElem?_eq_some_iff.1 hp
          simp (disch := omega) [go_sem, Mesh.cs, vsV, tsV, hlt, hp, hp', tcs, wrap64_small]
          exact ⟨j + 1, by omega, by omega, rfl⟩
    · have hlt : k < m.verts.length := by omega
      have hp : m.verts[k]? = some m.verts[k] := List.getElem?_eq_getElem hlt
      generalize m.verts[k] = v at hp
      obtain ⟨_, hp'⟩ := List.getElem?_eq_some_iff.1 hp
      simp (disch := omega) [go_sem, Mesh.cs, vsV, tsV, hlt, hp, hp', vcs, wrap64_small]
      exact ⟨k + 1, by omega, by omega, rfl⟩

theorem law09_awake_ok {f fw : FuncId} (hf : FnOk P f (law09_awake.c fw) law09_awake.r law09_awake.n) (hw : WeldC P fw) : AwakeC P f := by
  refine PureC.is (pure_of hm hf (Nat.le_of_ble_eq_true rfl) ?_) rfl
  unfold law09_awake.c
  have h := hw awM
  rw [awM_weld] at h
  simp [go_sem]
  refine ACall_frz (vs := [awM.enc]) ?_ h ?_
  · simp [go_sem, frzAll, awM, Mesh.enc, Mesh.cs, vsV, tsV, V3.cs, T3.cs, V.isD]
  · simp [go_sem, weldV, Mesh.enc, Mesh.cs, vsV, tsV, V3.cs, T3.cs, law09_awake.r]

theorem WeldMerges_ok {f ff fw fr fs fa : FuncId} (hf : FnOk P f (law09_WeldMerges.c ff fw fr fs fa) law09_WeldMerges.r law09_WeldMerges.n) (hff : FewC P ff) (hw : WeldC P fw) (hr : WeldC P fr) (hs : SameWC P fs) (ha : AwakeC P fa)
    (m : Mesh) (h1 : m.verts.length ≤ 9223372036854775807) (h2 : m.tris.length ≤ 9223372036854775807) : PureC P f [m.enc] (· = .b true) := by
  refine pure_of hm hf (Nat.le_of_ble_eq_true rfl) ?_
  unfold law09_WeldMerges.c
  simp [go_sem, Mesh.enc, Mesh.cs]
  refine ACall_is (hff m h1 h2) ?_
  have hl := few_len m
  generalize m.few = m at hl
  have hwl := weldR_len m hl.1 hl.2
  have hw1 := hw m
  have hr1 := hr m
  have hs1 := hs (weldR m).1 (by omega) (by omega)
  generalize weldR m = r at hw1 hr1 hs1
  simp only [Mesh.enc, Mesh.cs] at hw1 hr1 hs1
  simp [go_sem, Mesh.enc, Mesh.cs]
  refine ACall_is hw1 ?_
  simp [go_sem, weldV, Mesh.enc, Mesh.cs]
  refine ACall_is hr1 ?_
  simp [go_sem, weldV, Mesh.enc, Mesh.cs]
  refine ACall_is hs1 ?_
  simp [go_sem]
  refine ACall_is ha ?_
  simp [go_sem, law09_WeldMerges.r]
end
end Go.Abs

