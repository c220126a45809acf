/- What the reference's test of coherence does to values. -/
import Derived.Test.YtmgfinibgfjmpaaGoOriB
set_option linter.unusedVariables false
set_option linter.unusedSimpArgs false
namespace Go.Abs

theorem nodup_take_succ {α : Type} {l : List α} {k : Nat} {x : α} (hx : l[k]? = some x) (h : (l.take k).Nodup) (hm : x ∉ l.take k) : (l.take (k + 1)).Nodup := by
  rw [List.take_add_one, hx, List.nodup_append]
  exact ⟨h, by simp, fun a ha b hb => by simp at hb; subst hb; rintro rfl; exact hm ha⟩

theorem alluses_len (l : List T3) (k : Nat) : (alluses (l.take k)).length ≤ 3 * k := by
  induction k with
  | zero => simp [alluses]
  | succ k ih =>
    by_cases hk : k < l.length
    · rw [alluses_succ (List.getElem?_eq_getElem hk), List.length_append]
      have : (edgesOf l[k]).length ≤ 3 := edgesK_le _ 3
      omega
    · rw [List.take_of_length_le (by omega)] at ih ⊢; omega
theorem p2_ext {x y : P2} (h1 : x.x = y.x) (h2 : x.y = y.y) : x = y := by cases x; cases y; simp_all

section
variable {P : Program} (hm : P.follows .mixedOrders = true)
include hm

set_option maxHeartbeats 4000000 in
theorem ref11_uses_ok {f : FuncId} (hf : FnOk P f ref11_uses.c ref11_uses.r ref11_uses.n) : EdgesC P f := by
  intro t
  refine PureC.is (pure_of hm hf (Nat.le_of_ble_eq_true rfl) ?_) rfl
  unfold ref11_uses.c
  simp [go_sem, T3.enc, T3.cs]
  have w1 : IntKind.i64.wrap 1 = 1 := rfl
  have w2 : IntKind.i64.wrap 2 = 2 := rfl
  have w3 : IntKind.i64.wrap 3 = 3 := rfl
  refine AS_loopG [.t 4 2] (α := Nat) (fun k => k ≤ 3)
    (fun k => ⟨[(3, .own 1 1 0 3), (4, .own 2 ((edgesK t k).length + 1) 0 (edgesK t k).length), (5, .i .i64 k)],
      [.dead, .arr 1 2 [[.i .i64 t.a, .i .i64 t.b], [.i .i64 t.b, .i .i64 t.c], [.i .i64 t.c, .i .i64 t.a]], .arr ((edgesK t k).length + 1) 2 ((edgesK t k).map P2.cs)]⟩)
    (fun k => 3 - k) 0 (by omega) ?_ ?_
  · simp [go_sem, edgesK_0, V.cl, V.cl1, V.cl0]
  · intro k hk
    have hl := edgesK_le t k
    by_cases h3 : k = 3
    · subst h3
      simp [go_sem, ref11_uses.r, psV, edgesOf, p2_isD]
    · have : k = 0 ∨ k = 1 ∨ k = 2 := by omega
      rcases this with rfl | rfl | rfl
      · have hs := edgesK_1 t
        generalize hE : edgesK t 0 = E0 at hs hl
        by_cases h : t.a = t.b
        · rw [if_pos h] at hs
          simp [go_sem, h, w1, w2, w3]
          exact ⟨1, by omega, by omega, by simp [hs], by simp [hs], by simp [p2_cl]⟩
        · rw [if_neg h] at hs
          simp [go_sem, h, w1, w2, w3]
          exact ⟨by omega, 1, by omega, by omega, by simp [hs], by simp [hs, pcs, or_imp, forall_and, V.cl, V.cl1, V.cl0]⟩
      · have hs := edgesK_2 t
        generalize hE : edgesK t 1 = E0 at hs hl
        by_cases h : t.b = t.c
        · rw [if_pos h] at hs
          simp [go_sem, h, w1, w2, w3]
          exact ⟨2, by omega, by omega, by simp [hs], by simp [hs], by simp [p2_cl]⟩
        · rw [if_neg h] at hs
          simp [go_sem, h, w1, w2, w3]
          exact ⟨by omega, 2, by omega, by omega, by simp [hs], by simp [hs, pcs, or_imp, forall_and, V.cl, V.cl1, V.cl0]⟩
      · have hs := edgesK_3 t
        generalize hE : edgesK t 2 = E0 at hs hl
        by_cases h : t.c = t.a
        · rw [if_pos h] at hs
          simp [go_sem, h, w1, w2, w3]
          exact ⟨3, by omega, by omega, by simp [hs], by simp [hs], by simp [p2_cl]⟩
        · rw [if_neg h] at hs
          simp [go_sem, h, w1, w2, w3]
          exact ⟨by omega, 3, by omega, by omega, by simp [hs], by simp [hs, pcs, or_imp, forall_and, V.cl, V.cl1, V.cl0]⟩
set_option maxHeartbeats 4000000 in
theorem ref11_coherent_ok {f fu : FuncId} (hf : FnOk P f (ref11_coherent.c fu) ref11_coherent.r ref11_coherent.n) (hu : EdgesC P fu) : CohC P f := by
  intro l hl
  refine PureC.is (pure_of hm hf (Nat.le_of_ble_eq_true rfl) ?_) rfl
  unfold ref11_coherent.c
  simp [go_sem, tsV]
  refine AS_loopG [.t 3 2] (α := Nat) (fun k => k ≤ l.length)
    (fun k => ⟨[(0, tsV l), (3, .own 0 (k + 1) 0 (alluses (l.take k)).length), (4, .i .i64 k)], [.arr (k + 1) 2 ((alluses (l.take k)).map P2.cs)]⟩)
    (fun k => l.length - k) 0 (by omega) ?_ ?_
  · simp [go_sem, tsV, alluses]
  · intro k hk
    have hal : (alluses (l.take k)).length ≤ 3 * k := alluses_len l k
    by_cases hkl : k = l.length
    · subst hkl
      rw [List.take_length] at hal ⊢
      simp [go_sem, tsV]
      generalize hE : alluses l = E at hal ⊢
      refine AS_loop (α := Nat) (fun k => k ≤ E.length ∧ (E.take k).Nodup)
        (fun k => ⟨[(3, .own 0 (l.length + 1) 0 E.length), (5, .i .i64 k)], [.arr (l.length + 1) 2 (E.map P2.cs)]⟩)
        (fun k => E.length - k) 0 ⟨by omega, by simp⟩ ?_ ?_
      · simp [go_sem, p2_cl]
      · rintro i ⟨hi, hnd⟩
        by_cases hil : i = E.length
        · subst hil
          rw [List.take_length] at hnd
          simp [go_sem, ref11_coherent.r, cohB, hE, hnd]
        · have hilt : i < E.length := by omega
          have hp : E[i]? = some E[i] := List.getElem?_eq_getElem hilt
          generalize E[i] = x at hp
          obtain ⟨_, hp'⟩ := List.getElem?_eq_some_iff.1 hp
          simp [go_sem, hilt]
          refine AS_loop (α := Nat) (fun k => k ≤ i ∧ x ∉ E.take k)
            (fun k => ⟨[(3, .own 0 (l.length + 1) 0 E.length), (5, .i .i64 i), (6, .i .i64 k)], [.arr (l.length + 1) 2 (E.map P2.cs)]⟩)
            (fun k => i - k) 0 ⟨by omega, by simp⟩ ?_ ?_
          · simp [go_sem, p2_cl]
          · rintro k ⟨hk, hnm⟩
            by_cases hki : k = i
            · subst hki
              simp (disch := omega) [go_sem, wrap64_small]
              exact ⟨k + 1, ⟨by omega, nodup_take_succ hp hnd hnm⟩, by omega, by omega, by simp [p2_cl]⟩
            · have hklt : k < E.length := by omega
              have hq : E[k]? = some E[k] := List.getElem?_eq_getElem hklt
              generalize E[k] = y at hq
              obtain ⟨_, hq'⟩ := List.getElem?_eq_some_iff.1 hq
              have hki' : k < i := by omega
              simp [go_sem, hki', hilt, hklt, hp', hq', pcs]
              by_cases hxy : x = y
              · refine ⟨fun _ _ => ?_, fun h => absurd (by rw [hxy]) (h (by rw [hxy]))⟩
                have hnn : ¬ (alluses l).Nodup := by
                  rw [hE]
                  intro hall
                  exact List.pairwise_iff_getElem.1 hall k i hklt hilt hki' (by rw [hp', hq', hxy])
                simp [go_sem, ref11_coherent.r, cohB, hnn]
              · refine ⟨fun h1 h2 => absurd (p2_ext h1 h2) hxy, fun _ => ⟨k + 1, ⟨by omega, ?_⟩, by omega, wrap64_small (by omega) (by omega)⟩⟩
                rw [List.take_add_one, hq]
                simp [hnm, hxy]
    · have hlt : k < l.length := by omega
      have hp : l[k]? = some l[k] := List.getElem?_eq_getElem hlt
      generalize l[k] = t at hp
      obtain ⟨_, hp'⟩ := List.getElem?_eq_some_iff.1 hp
      simp [go_sem, tsV, hlt, hp', tcs]
      refine ACall_is (hu t) ?_
      have hel : (edgesOf t).length ≤ 3 := edgesK_le t 3
      simp [go_sem, psV]
      refine ⟨by omega, k + 1, by omega, by omega, ?_⟩
      rw [alluses_succ hp]
      simp [p2_cl]
      exact wrap64_small (by omega) (by omega)
end
end Go.Abs

