/- The segments of the section of a closed mesh: plain laws. -/
import Derived.Test.YtaffnmhokdhgdaaGoSecH
import Derived.Test.YtaffnmhokdhgdaaGoToB
set_option linter.unusedVariables false
set_option linter.unusedSimpArgs false
namespace Go.Abs

def upAt (m : Mesh) (z : Int) (e : P2) : Option (Int × Int) := point (m.v e.x) (m.v e.y) z

theorem upAt_ne {m : Mesh} {z : Int} {e : P2} {p : Int × Int} (h : upAt m z e = some p) : e.x ≠ e.y := by
  intro he
  unfold upAt point at h
  rw [he] at h
  split at h
  · rename_i hh; omega
  · simp at h

theorem count_edgesOf {t : T3} {q : P2 → Bool} (hq : ∀ e, q e = true → e.x ≠ e.y) : (edgesOf t).countP q = (edges3 t).countP q := by
  unfold edgesOf edgesK
  rw [List.countP_filter, List.take_of_length_le (by simp [edges3])]
  refine List.countP_congr fun e _ => ?_
  have := hq e
  by_cases h : q e = true
  · simp [h, this h]
  · simp [h]

theorem cut3_count {a b c : V3} {z : Int} (ha : a.valid = true) (hb : b.valid = true) (hc : c.valid = true) (p : Int × Int) :
    ([cut3 z a b c].filter (·.found)).countP (fun s => decide (s.b = p)) = [point a b z, point b c z, point c a z].countP (fun o => decide (o = some p)) ∧
    ([cut3 z a b c].filter (·.found)).countP (fun s => decide (s.a = p)) = [point b a z, point c b z, point a c z].countP (fun o => decide (o = some p)) := by
  by_cases h1 : a.z ≤ z <;> by_cases h2 : b.z ≤ z <;> by_cases h3 : c.z ≤ z <;>
    simp [cut3, cutAt, Sg4.init, Sg4.step, point, ha, hb, hc, h1, h2, h3, Int.not_lt.2, Int.not_le.1, show (z < a.z) = ¬ (a.z ≤ z) by simp, show (z < b.z) = ¬ (b.z ≤ z) by simp, show (z < c.z) = ¬ (c.z ≤ z) by simp, List.countP_cons]

theorem P2.rev_rev (e : P2) : e.rev.rev = e := rfl
theorem segs_count {m : Mesh} {z : Int} (hv : vsOk m.verts = true) (p : Int × Int) : ∀ ts : List T3, tsOk m.verts.length ts = true →
    (segsOf m z ts).countP (fun s => decide (s.b = p)) = (alluses ts).countP (fun e => decide (upAt m z e = some p)) ∧
    (segsOf m z ts).countP (fun s => decide (s.a = p)) = (alluses ts).countP (fun e => decide (upAt m z e.rev = some p))
  | [], _ => ⟨rfl, rfl⟩
  | t :: ts, h => by
    simp only [tsOk, List.all_cons, Bool.and_eq_true] at h
    have ih := segs_count (z := z) hv p ts h.2
    obtain ⟨_, h1, _, h2, _, h3⟩ := T3.ok_iff.1 h.1
    have hs : segsOf m z (t :: ts) = [triCut m z t].filter (·.found) ++ segsOf m z ts := by
      simp only [segsOf, List.map_cons, List.filter_cons, List.filter_nil]
      split <;> rfl
    have ha : alluses (t :: ts) = edgesOf t ++ alluses ts := rfl
    have hc := cut3_count (z := z) (Mesh.v_valid hv h1) (Mesh.v_valid hv h2) (Mesh.v_valid hv h3) p
    rw [hs, ha, List.countP_append, List.countP_append, List.countP_append, List.countP_append, ih.1, ih.2,
      count_edgesOf (fun e he => upAt_ne (of_decide_eq_true he)), count_edgesOf (fun e he => fun hh => upAt_ne (of_decide_eq_true he) hh.symm)]
    unfold triCut
    rw [hc.1, hc.2]
    exact ⟨rfl, rfl⟩

theorem closed_count {m : Mesh} (h : m.closed = true) (e : P2) : (alluses m.tris).count e = (alluses m.tris).count e.rev := by
  simp only [Mesh.closed, Bool.and_eq_true, decide_eq_true_eq] at h
  obtain ⟨hz, hb⟩ := h
  have key : ∀ e : P2, (alluses m.tris).count e ≤ (alluses m.tris).count e.rev := by
    intro e
    by_cases he : e ∈ alluses m.tris
    · refine Decidable.byContradiction fun hlt => ?_
      have : e ∈ m.border := mem_border.2 ⟨hz, he, by simp only [Mesh.use, hz, if_true]; omega⟩
      rw [hb] at this; simp at this
    · rw [List.count_eq_zero.2 he]; omega
  have h1 := key e
  have h2 := key e.rev
  rw [P2.rev_rev] at h2
  omega
theorem closed_perm {m : Mesh} (h : m.closed = true) : (alluses m.tris).Perm ((alluses m.tris).map P2.rev) := by
  rw [List.perm_iff_count]
  intro e
  rw [closed_count h e, List.count, List.count, List.countP_map]
  refine List.countP_congr fun x _ => ?_
  simp only [Function.comp, beq_iff_eq]
  constructor
  · rintro rfl; rfl
  · rintro rfl; rfl
theorem segs_balanced {m : Mesh} {z : Int} (h : m.closed = true) (p : Int × Int) :
    (secCut m z).1.countP (fun s => decide (s.a = p)) = (secCut m z).1.countP (fun s => decide (s.b = p)) := by
  have hz : m.check = 0 := by
    simp only [Mesh.closed, Bool.and_eq_true, decide_eq_true_eq] at h; exact h.1
  obtain ⟨z1, z2, z3, z4⟩ := Mesh.check_zero.1 hz
  unfold secCut
  rw [if_pos hz]
  split
  · rfl
  · have hc := segs_count (z := z) z3 p m.tris z4
    simp only
    rw [hc.1, hc.2, (closed_perm h).countP_eq, List.countP_map]
    rfl
end Go.Abs

