/- Part of the library on which the proof stands: an abstract machine, its values and its soundness against the model; or what functions of the program do to such values. -/
import Derived.Test.YtmgfinibgfjmpaaGoMap
import Derived.Test.YtmgfinibgfjmpaaGoRevC
import Derived.Test.YtmgfinibgfjmpaaGoClone
set_option linter.unusedVariables false
set_option linter.unusedSimpArgs false
namespace Go.Abs

def edges3 (t : T3) : List P2 := [⟨t.a, t.b⟩, ⟨t.b, t.c⟩, ⟨t.c, t.a⟩]
def edgesK (t : T3) (k : Nat) : List P2 := ((edges3 t).take k).filter fun e => decide (e.x ≠ e.y)
def edgesOf (t : T3) : List P2 := edgesK t 3
def EdgesC (P : Program) (f : FuncId) : Prop := ∀ t : T3, CallIs P f [t.enc] (psV (edgesOf t))

theorem p2_isD (p : P2) : (∀ y ∈ p.cs, y.isD = true) = True := by simp [P2.cs, V.isD]
theorem p2_cl (t : P2) (n : Nat) : (∀ y ∈ t.cs, y.cl n = true) = True := by simp [P2.cs, V.cl, V.cl1, V.cl0]
theorem edgesK_0 (t : T3) : edgesK t 0 = [] := rfl
theorem filt1 (x y : Int) (l : List P2) : (l ++ [(⟨x, y⟩ : P2)]).filter (fun e => decide (e.x ≠ e.y)) = if x = y then l.filter (fun e => decide (e.x ≠ e.y)) else l.filter (fun e => decide (e.x ≠ e.y)) ++ [⟨x, y⟩] := by
  rw [List.filter_append]
  by_cases h : x = y <;> simp [h]
theorem edgesK_1 (t : T3) : edgesK t 1 = if t.a = t.b then edgesK t 0 else edgesK t 0 ++ [⟨t.a, t.b⟩] := filt1 t.a t.b []
theorem edgesK_2 (t : T3) : edgesK t 2 = if t.b = t.c then edgesK t 1 else edgesK t 1 ++ [⟨t.b, t.c⟩] := filt1 t.b t.c [⟨t.a, t.b⟩]
theorem edgesK_3 (t : T3) : edgesK t 3 = if t.c = t.a then edgesK t 2 else edgesK t 2 ++ [⟨t.c, t.a⟩] := filt1 t.c t.a [⟨t.a, t.b⟩, ⟨t.b, t.c⟩]
theorem edgesK_le (t : T3) (k : Nat) : (edgesK t k).length ≤ 3 := by
  refine Nat.le_trans (List.length_filter_le _ _) ?_
  simp [edges3]; omega

section
variable {P : Program} (hm : P.follows .mixedOrders = true)
include hm

set_option maxHeartbeats 4000000 in
theorem orient_edges_ok {f : FuncId} (hf : FnOk P f orient_edges.c orient_edges.r orient_edges.n) : EdgesC P f := by
  intro t
  refine PureC.is (pure_of hm hf (Nat.le_of_ble_eq_true rfl) ?_) rfl
  unfold orient_edges.c
  simp [go_sem, T3.enc, T3.cs]
  have w1 : IntKind.i64.wrap 1 = 1 := rfl
  have w2 : IntKind.i64.wrap 2 = 2 := rfl
  have w3 : IntKind.i64.wrap 3 = 3 := rfl
  refine AS_loopG [.t 3 2] (α := Nat) (fun k => k ≤ 3)
    (fun k => ⟨[(3, .own 1 ((edgesK t k).length + 1) 0 (edgesK t k).length), (21, .a [.i .i64 t.a, .i .i64 t.b, .i .i64 t.b, .i .i64 t.c, .i .i64 t.c, .i .i64 t.a]), (22, .i .i64 k)],
      [.dead, .arr ((edgesK t k).length + 1) 2 ((edgesK t k).map P2.cs)]⟩)
    (fun k => 3 - k) 0 (by omega) ?_ ?_
  · simp [go_sem, edgesK_0]
  · intro k hk
    have hl := edgesK_le t k
    by_cases h3 : k = 3
    · subst h3
      simp [go_sem, orient_edges.r, psV, edgesOf, p2_isD]
    · have : k = 0 ∨ k = 1 ∨ k = 2 := by omega
      rcases this with rfl | rfl | rfl
      · have hs := edgesK_1 t
        generalize hE : edgesK t 0 = E0 at hs hl
        by_cases h : t.a = t.b
        · rw [if_pos h] at hs
          simp [go_sem, h, w1, w2, w3]
          exact ⟨1, by omega, by omega, by simp [hs], by simp [hs], by simp [p2_cl]⟩
        · rw [if_neg h] at hs
          simp [go_sem, h, w1, w2, w3]
          exact ⟨by omega, 1, by omega, by omega, by simp [hs], by simp [hs, pcs, or_imp, forall_and, V.cl, V.cl1, V.cl0]⟩
      · have hs := edgesK_2 t
        generalize hE : edgesK t 1 = E0 at hs hl
        by_cases h : t.b = t.c
        · rw [if_pos h] at hs
          simp [go_sem, h, w1, w2, w3]
          exact ⟨2, by omega, by omega, by simp [hs], by simp [hs], by simp [p2_cl]⟩
        · rw [if_neg h] at hs
          simp [go_sem, h, w1, w2, w3]
          exact ⟨by omega, 2, by omega, by omega, by simp [hs], by simp [hs, pcs, or_imp, forall_and, V.cl, V.cl1, V.cl0]⟩
      · have hs := edgesK_3 t
        generalize hE : edgesK t 2 = E0 at hs hl
        by_cases h : t.c = t.a
        · rw [if_pos h] at hs
          simp [go_sem, h, w1, w2, w3]
          exact ⟨3, by omega, by omega, by simp [hs], by simp [hs], by simp [p2_cl]⟩
        · rw [if_neg h] at hs
          simp [go_sem, h, w1, w2, w3]
          exact ⟨by omega, 3, by omega, by omega, by simp [hs], by simp [hs, pcs, or_imp, forall_and, V.cl, V.cl1, V.cl0]⟩
end
end Go.Abs
set_option linter.unusedVariables false
set_option linter.unusedSimpArgs false
namespace Go.Abs

def alluses (l : List T3) : List P2 := l.flatMap edgesOf
def cohB (l : List T3) : Bool := decide (alluses l).Nodup
def CohC (P : Program) (f : FuncId) : Prop := ∀ l : List T3, l.length ≤ 1000000 → CallIs P f [tsV l] (.b (cohB l))

def asV (p : P2 × Int) : V × V := (.a [.i .i64 p.1.x, .i .i64 p.1.y], .i .i64 p.2)
theorem findE_asV (e : P2) (L : List (P2 × Int)) : findE [1, 1] (.a [.i .i64 e.x, .i .i64 e.y]) (L.map asV) = some ((fnd e L).map fun p => (p.1, .i .i64 p.2)) := findE_as e L
def ones (S : List P2) : List (P2 × Int) := S.map fun e => (e, 1)
theorem fnd_ones_none {e : P2} {S : List P2} (h : e ∉ S) : fnd e (ones S) = none := by
  rw [fnd_none]
  intro p hp
  simp only [ones, List.mem_map] at hp
  obtain ⟨a, ha, rfl⟩ := hp
  rintro rfl
  exact h ha
theorem fnd_ones_some {e : P2} : ∀ {S : List P2}, e ∈ S → ∃ i, fnd e (ones S) = some (i, 1)
  | [], h => by simp at h
  | a :: S, h => by
    by_cases ha : e = a
    · exact ⟨0, by simp [ones, fnd, ha]⟩
    · have : e ∈ S := by simpa [ha] using h
      obtain ⟨i, hi⟩ := fnd_ones_some this
      exact ⟨i + 1, by simp only [ones, List.map_cons, fnd, if_neg ha]; rw [show S.map (fun e => (e, (1 : Int))) = ones S from rfl, hi]; rfl⟩
theorem ones_app (S : List P2) (e : P2) : ones (S ++ [e]) = ones S ++ [(e, 1)] := by simp [ones]
theorem asV_cl (L : List (P2 × Int)) (n : Nat) : ∀ (a b : V) (x : P2) (y : Int), (x, y) ∈ L → asV (x, y) = (a, b) → V.cl n a = true ∧ V.cl n b = true := by
  rintro _ _ x y _ h
  simp only [asV, Prod.mk.injEq] at h
  obtain ⟨rfl, rfl⟩ := h
  exact ⟨rfl, rfl⟩
theorem alluses_succ {l : List T3} {k : Nat} {t : T3} (h : l[k]? = some t) : alluses (l.take (k + 1)) = alluses (l.take k) ++ edgesOf t := by
  simp [alluses, List.take_add_one, h]
theorem alluses_len (l : List T3) (k : Nat) : (alluses (l.take k)).length ≤ 3 * k := by
  induction k with
  | zero => simp [alluses]
  | succ k ih =>
    by_cases hk : k < l.length
    · rw [alluses_succ (List.getElem?_eq_getElem hk), List.length_append]
      have : (edgesOf l[k]).length ≤ 3 := edgesK_le _ 3
      omega
    · rw [List.take_of_length_le (by omega)] at ih ⊢; omega
theorem coh_pre {l : List T3} {k : Nat} {S : List P2} (h : S <+: edgesOf ((l[k]?).getD ⟨0, 0, 0⟩)) (hk : k < l.length) : alluses (l.take k) ++ S <+: alluses l := by
  have h1 : l[k]? = some l[k] := List.getElem?_eq_getElem hk
  rw [h1] at h
  obtain ⟨r, hr⟩ := h
  have h2 : alluses l = alluses (l.take (k + 1)) ++ alluses (l.drop (k + 1)) := by
    rw [alluses, alluses, alluses, ← List.flatMap_append, List.take_append_drop]
  rw [h2, alluses_succ h1, show edgesOf l[k] = S ++ r from hr.symm]
  exact ⟨r ++ alluses (l.drop (k + 1)), by simp⟩

section
variable {P : Program} (hm : P.follows .mixedOrders = true)
include hm

set_option maxHeartbeats 4000000 in
theorem orient_coherent_ok {f fe : FuncId} (hf : FnOk P f (orient_coherent.c fe) orient_coherent.r orient_coherent.n) (he : EdgesC P fe) : CohC P f := by
  intro l hl
  refine PureC.is (pure_of hm hf (Nat.le_of_ble_eq_true rfl) ?_) rfl
  unfold orient_coherent.c
  simp [go_sem, tsV]
  refine AS_loop (α := Nat) (fun k => k ≤ l.length ∧ (alluses (l.take k)).Nodup)
    (fun k => ⟨[(3, .mp 0), (9, tsV l), (10, .i .i64 l.length), (11, .i .i64 k)], [.mp ((ones (alluses (l.take k))).map asV)]⟩)
    (fun k => l.length - k) 0 ⟨by omega, by simp [alluses]⟩ ?_ ?_
  · simp [go_sem, tsV, alluses, ones]
  · rintro k ⟨hk, hnd⟩
    by_cases hkl : k = l.length
    · subst hkl
      simp [go_sem, tsV, orient_coherent.r]
      rw [List.take_length] at hnd
      simp [cohB, hnd]
    · have hlt : k < l.length := by omega
      have hp : l[k]? = some l[k] := List.getElem?_eq_getElem hlt
      generalize l[k] = t at hp
      obtain ⟨_, hp'⟩ := List.getElem?_eq_some_iff.1 hp
      simp [go_sem, tsV, hlt, hp', tcs]
      refine ACall_is (he t) ?_
      have hlen : (edgesOf t).length ≤ 3 := edgesK_le t 3
      simp [go_sem, psV]
      refine AS_loop (α := Nat) (fun j => j ≤ (edgesOf t).length ∧ (alluses (l.take k) ++ (edgesOf t).take j).Nodup)
        (fun j => ⟨[(3, .mp 0), (9, tsV l), (10, .i .i64 l.length), (11, .i .i64 k), (16, psV (edgesOf t)), (17, .i .i64 (edgesOf t).length), (18, .i .i64 j)], [.mp ((ones (alluses (l.take k) ++ (edgesOf t).take j)).map asV)]⟩)
        (fun j => (edgesOf t).length - j) 0 ⟨by omega, by simpa using hnd⟩ ?_ ?_
      · simp [go_sem, tsV, psV]
        exact asV_cl _ 1
      · rintro j ⟨hj, hnd2⟩
        by_cases hjl : j = (edgesOf t).length
        · subst hjl
          simp (disch := omega) [go_sem, tsV, psV, wrap64_small]
          rw [List.take_length] at hnd2
          exact ⟨k + 1, ⟨by omega, by rw [alluses_succ hp]; exact hnd2⟩, by omega, by omega, by rw [alluses_succ hp], asV_cl _ 1⟩
        · have hjlt : j < (edgesOf t).length := by omega
          have hq : (edgesOf t)[j]? = some (edgesOf t)[j] := List.getElem?_eq_getElem hjlt
          have htk : (edgesOf t).take (j + 1) = (edgesOf t).take j ++ [(edgesOf t)[j]] := by rw [List.take_add_one, hq]; rfl
          generalize (edgesOf t)[j] = e at hq htk
          obtain ⟨_, hq'⟩ := List.getElem?_eq_some_iff.1 hq
          have hpre := coh_pre (l := l) (k := k) (S := (edgesOf t).take (j + 1)) (by rw [hp]; exact List.take_prefix _ _) hlt
          rw [htk, ← List.append_assoc] at hpre
          generalize hS : alluses (l.take k) ++ (edgesOf t).take j = S at hnd2 hpre
          by_cases hmem : e ∈ S
          · obtain ⟨i, hi⟩ := fnd_ones_some hmem
            have h1 := findE_asV e (ones S)
            rw [hi] at h1
            simp only [Option.map_some] at h1
            have h3 : findE [1, 1] (V.a [V.i IntKind.i64 e.x, V.i IntKind.i64 e.y]) ((List.map asV (ones S)).set i (V.a [V.i .i64 e.x, V.i .i64 e.y], V.i .i64 2)) = some (some (i, .i .i64 2)) := by
              have := findE_asV e ((ones S).set i (e, 2))
              rw [(fnd_set (n' := 2) hi).2, List.map_set] at this
              exact this
            have hil : i < (ones S).length := (List.getElem?_eq_some_iff.1 (fnd_set (n' := 2) hi).1).1
            have hil' : i < (List.map asV (ones S)).length := by simpa using hil
            have w2 : IntKind.i64.wrap 2 = 2 := rfl
            simp [go_sem, psV, hjlt, hq', pcs, h1, h3, w2, List.getElem?_set_self hil', List.set_set, orient_coherent.r]
            unfold cohB
            rw [decide_eq_false]
            intro hall
            have := hall.sublist hpre.sublist
            rw [List.nodup_append] at this
            exact this.2.2 e hmem e (by simp) rfl
          · have h1 := findE_asV e (ones S)
            rw [fnd_ones_none hmem] at h1
            simp only [Option.map_none] at h1
            have w1 : IntKind.i64.wrap 1 = 1 := rfl
            have h3 : findE [1, 1] (V.a [V.i IntKind.i64 e.x, V.i IntKind.i64 e.y]) (List.map asV (ones S) ++ [(V.a [V.i .i64 e.x, V.i .i64 e.y], V.i .i64 1)]) = some (some ((ones S).length, .i .i64 1)) := by
              have := findE_asV e (ones S ++ [(e, 1)])
              rw [fnd_app (fnd_ones_none hmem), List.map_append] at this
              exact this
            simp [go_sem, psV, hjlt, hq', pcs, h1, h3, w1]
            have hS1 : alluses (l.take k) ++ (edgesOf t).take (j + 1) = S ++ [e] := by rw [htk, ← List.append_assoc, hS]
            refine ⟨j + 1, ⟨by omega, ?_⟩, by omega, ⟨.inr rfl, wrap64_small (by omega) (by omega)⟩, ?_, asV_cl _ 1⟩
            · rw [hS1, List.nodup_append]
              exact ⟨hnd2, by simp, fun a ha b hb => by simp at hb; subst hb; rintro rfl; exact hmem ha⟩
            · rw [hS1, ones_app, List.map_append]; rfl
end
end Go.Abs
set_option linter.unusedVariables false
set_option linter.unusedSimpArgs false
namespace Go.Abs

theorem nodup_take_succ {α : Type} {l : List α} {k : Nat} {x : α} (hx : l[k]? = some x) (h : (l.take k).Nodup) (hm : x ∉ l.take k) : (l.take (k + 1)).Nodup := by
  rw [List.take_add_one, hx, List.nodup_append]
  exact ⟨h, by simp, fun a ha b hb => by simp at hb; subst hb; rintro rfl; exact hm ha⟩

theorem p2_ext {x y : P2} (h1 : x.x = y.x) (h2 : x.y = y.y) : x = y := by cases x; cases y; simp_all

section
variable {P : Program} (hm : P.follows .mixedOrders = true)
include hm

set_option maxHeartbeats 4000000 in
theorem ref11_uses_ok {f : FuncId} (hf : FnOk P f ref11_uses.c ref11_uses.r ref11_uses.n) : EdgesC P f := by
  intro t
  refine PureC.is (pure_of hm hf (Nat.le_of_ble_eq_true rfl) ?_) rfl
  unfold ref11_uses.c
  simp [go_sem, T3.enc, T3.cs]
  have w1 : IntKind.i64.wrap 1 = 1 := rfl
  have w2 : IntKind.i64.wrap 2 = 2 := rfl
  have w3 : IntKind.i64.wrap 3 = 3 := rfl
  refine AS_loopG [.t 4 2] (α := Nat) (fun k => k ≤ 3)
    (fun k => ⟨[(3, .own 1 1 0 3), (4, .own 2 ((edgesK t k).length + 1) 0 (edgesK t k).length), (5, .i .i64 k)],
      [.dead, .arr 1 2 [[.i .i64 t.a, .i .i64 t.b], [.i .i64 t.b, .i .i64 t.c], [.i .i64 t.c, .i .i64 t.a]], .arr ((edgesK t k).length + 1) 2 ((edgesK t k).map P2.cs)]⟩)
    (fun k => 3 - k) 0 (by omega) ?_ ?_
  · simp [go_sem, edgesK_0, V.cl, V.cl1, V.cl0]
  · intro k hk
    have hl := edgesK_le t k
    by_cases h3 : k = 3
    · subst h3
      simp [go_sem, ref11_uses.r, psV, edgesOf, p2_isD]
    · have : k = 0 ∨ k = 1 ∨ k = 2 := by omega
      rcases this with rfl | rfl | rfl
      · have hs := edgesK_1 t
        generalize hE : edgesK t 0 = E0 at hs hl
        by_cases h : t.a = t.b
        · rw [if_pos h] at hs
          simp [go_sem, h, w1, w2, w3]
          exact ⟨1, by omega, by omega, by simp [hs], by simp [hs], by simp [p2_cl]⟩
        · rw [if_neg h] at hs
          simp [go_sem, h, w1, w2, w3]
          exact ⟨by omega, 1, by omega, by omega, by simp [hs], by simp [hs, pcs, or_imp, forall_and, V.cl, V.cl1, V.cl0]⟩
      · have hs := edgesK_2 t
        generalize hE : edgesK t 1 = E0 at hs hl
        by_cases h : t.b = t.c
        · rw [if_pos h] at hs
          simp [go_sem, h, w1, w2, w3]
          exact ⟨2, by omega, by omega, by simp [hs], by simp [hs], by simp [p2_cl]⟩
        · rw [if_neg h] at hs
          simp [go_sem, h, w1, w2, w3]
          exact ⟨by omega, 2, by omega, by omega, by simp [hs], by simp [hs, pcs, or_imp, forall_and, V.cl, V.cl1, V.cl0]⟩
      · have hs := edgesK_3 t
        generalize hE : edgesK t 2 = E0 at hs hl
        by_cases h : t.c = t.a
        · rw [if_pos h] at hs
          simp [go_sem, h, w1, w2, w3]
          exact ⟨3, by omega, by omega, by simp [hs], by simp [hs], by simp [p2_cl]⟩
        · rw [if_neg h] at hs
          simp [go_sem, h, w1, w2, w3]
          exact ⟨by omega, 3, by omega, by omega, by simp [hs], by simp [hs, pcs, or_imp, forall_and, V.cl, V.cl1, V.cl0]⟩
set_option maxHeartbeats 4000000 in
theorem ref11_coherent_ok {f fu : FuncId} (hf : FnOk P f (ref11_coherent.c fu) ref11_coherent.r ref11_coherent.n) (hu : EdgesC P fu) : CohC P f := by
  intro l hl
  refine PureC.is (pure_of hm hf (Nat.le_of_ble_eq_true rfl) ?_) rfl
  unfold ref11_coherent.c
  simp [go_sem, tsV]
  refine AS_loopG [.t 3 2] (α := Nat) (fun k => k ≤ l.length)
    (fun k => ⟨[(0, tsV l), (3, .own 0 (k + 1) 0 (alluses (l.take k)).length), (4, .i .i64 k)], [.arr (k + 1) 2 ((alluses (l.take k)).map P2.cs)]⟩)
    (fun k => l.length - k) 0 (by omega) ?_ ?_
  · simp [go_sem, tsV, alluses]
  · intro k hk
    have hal : (alluses (l.take k)).length ≤ 3 * k := alluses_len l k
    by_cases hkl : k = l.length
    · subst hkl
      rw [List.take_length] at hal ⊢
      simp [go_sem, tsV]
      generalize hE : alluses l = E at hal ⊢
      refine AS_loop (α := Nat) (fun k => k ≤ E.length ∧ (E.take k).Nodup)
        (fun k => ⟨[(3, .own 0 (l.length + 1) 0 E.length), (5, .i .i64 k)], [.arr (l.length + 1) 2 (E.map P2.cs)]⟩)
        (fun k => E.length - k) 0 ⟨by omega, by simp⟩ ?_ ?_
      · simp [go_sem, p2_cl]
      · rintro i ⟨hi, hnd⟩
        by_cases hil : i = E.length
        · subst hil
          rw [List.take_length] at hnd
          simp [go_sem, ref11_coherent.r, cohB, hE, hnd]
        · have hilt : i < E.length := by omega
          have hp : E[i]? = some E[i] := List.getElem?_eq_getElem hilt
          generalize E[i] = x at hp
          obtain ⟨_, hp'⟩ := List.getElem?_eq_some_iff.1 hp
          simp [go_sem, hilt]
          refine AS_loop (α := Nat) (fun k => k ≤ i ∧ x ∉ E.take k)
            (fun k => ⟨[(3, .own 0 (l.length + 1) 0 E.length), (5, .i .i64 i), (6, .i .i64 k)], [.arr (l.length + 1) 2 (E.map P2.cs)]⟩)
            (fun k => i - k) 0 ⟨by omega, by simp⟩ ?_ ?_
          · simp [go_sem, p2_cl]
          · rintro k ⟨hk, hnm⟩
            by_cases hki : k = i
            · subst hki
              simp (disch := omega) [go_sem, wrap64_small]
              exact ⟨k + 1, ⟨by omega, nodup_take_succ hp hnd hnm⟩, by omega, by omega, by simp [p2_cl]⟩
            · have hklt : k < E.length := by omega
              have hq : E[k]? = some E[k] := List.getElem?_eq_getElem hklt
              generalize E[k] = y at hq
              obtain ⟨_, hq'⟩ := List.getElem?_eq_some_iff.1 hq
              have hki' : k < i := by omega
              simp [go_sem, hki', hilt, hklt, hp', hq', pcs]
              by_cases hxy : x = y
              · refine ⟨fun _ _ => ?_, fun h => absurd (by rw [hxy]) (h (by rw [hxy]))⟩
                have hnn : ¬ (alluses l).Nodup := by
                  rw [hE]
                  intro hall
                  exact List.pairwise_iff_getElem.1 hall k i hklt hilt hki' (by rw [hp', hq', hxy])
                simp [go_sem, ref11_coherent.r, cohB, hnn]
              · refine ⟨fun h1 h2 => absurd (p2_ext h1 h2) hxy, fun _ => ⟨k + 1, ⟨by omega, ?_⟩, by omega, wrap64_small (by omega) (by omega)⟩⟩
                rw [List.take_add_one, hq]
                simp [hnm, hxy]
    · have hlt : k < l.length := by omega
      have hp : l[k]? = some l[k] := List.getElem?_eq_getElem hlt
      generalize l[k] = t at hp
      obtain ⟨_, hp'⟩ := List.getElem?_eq_some_iff.1 hp
      simp [go_sem, tsV, hlt, hp', tcs]
      refine ACall_is (hu t) ?_
      have hel : (edgesOf t).length ≤ 3 := edgesK_le t 3
      simp [go_sem, psV]
      refine ⟨by omega, k + 1, by omega, by omega, ?_⟩
      rw [alluses_succ hp]
      simp [p2_cl]
      exact wrap64_small (by omega) (by omega)
end
end Go.Abs
set_option linter.unusedVariables false
set_option linter.unusedSimpArgs false
namespace Go.Abs

def Mesh.coh (m : Mesh) : Bool := decide (m.check = 0) && cohB m.tris
def CoherentC (P : Program) (f : FuncId) : Prop := ∀ m : Mesh, CallIs P f [m.enc] (.b m.coh)
def Mesh.smallO (m : Mesh) : Bool := decide (m.tris.length ≤ 40) && decide (m.verts.length ≤ 60)
def SmallOC (P : Program) (f : FuncId) : Prop := ∀ m : Mesh, CallIs P f [m.enc] (.b m.smallO)

section
variable {P : Program} (hm : P.follows .mixedOrders = true)
include hm

theorem orient_Coherent_ok {f fc fh : FuncId} (hf : FnOk P f (orient_Coherent.c fc fh) orient_Coherent.r orient_Coherent.n) (hc : CheckC P fc) (hh : CohC P fh) : CoherentC P f := by
  intro m
  refine PureC.is (pure_of hm hf (Nat.le_of_ble_eq_true rfl) ?_) rfl
  unfold orient_Coherent.c
  simp [go_sem, Mesh.enc, Mesh.cs]
  refine ACall_is (hc m) ?_
  by_cases h : m.check = 0
  · have hl := (Mesh.check_zero.1 h).2.1
    simp [go_sem, h]
    refine ACall_is (hh m.tris (by omega)) ?_
    simp [go_sem, orient_Coherent.r, Mesh.coh, h]
  · have h' : (m.check == 0) = false := by simpa using h
    simp [go_sem, h, h', orient_Coherent.r, Mesh.coh]

theorem ref11_Coherent_ok {f fc fh : FuncId} (hf : FnOk P f (ref11_Coherent.c fc fh) ref11_Coherent.r ref11_Coherent.n) (hc : CheckC P fc) (hh : CohC P fh) : CoherentC P f := by
  intro m
  refine PureC.is (pure_of hm hf (Nat.le_of_ble_eq_true rfl) ?_) rfl
  unfold ref11_Coherent.c
  simp [go_sem, Mesh.enc, Mesh.cs]
  refine ACall_is (hc m) ?_
  by_cases h : m.check = 0
  · have hl := (Mesh.check_zero.1 h).2.1
    simp [go_sem, h]
    refine ACall_is (hh m.tris (by omega)) ?_
    simp [go_sem, ref11_Coherent.r, Mesh.coh, h]
  · have h' : (m.check == 0) = false := by simpa using h
    simp [go_sem, h, h', ref11_Coherent.r, Mesh.coh]

theorem law11_Small_ok {f : FuncId} (hf : FnOk P f law11_Small.c law11_Small.r law11_Small.n) : SmallOC P f := by
  intro m
  refine PureC.is (pure_of hm hf (Nat.le_of_ble_eq_true rfl) ?_) rfl
  unfold law11_Small.c
  simp +contextual -implicitDefEqProofs [go_sem, Mesh.enc, Mesh.cs, vsV, tsV, law11_Small.r, Mesh.smallO]
  congr 1 <;> rw [decide_eq_decide] <;> omega

theorem OrientChecks_ok {f fs fp fr fa : FuncId} (hf : FnOk P f (law11_OrientChecks.c fs fp fr fa) law11_OrientChecks.r law11_OrientChecks.n) (hs : SmallOC P fs) (hp : CoherentC P fp) (hr : CoherentC P fr) (ha : AwakeC P fa) (m : Mesh) :
    PureC P f [m.enc] (· = .b true) := by
  refine pure_of hm hf (Nat.le_of_ble_eq_true rfl) ?_
  unfold law11_OrientChecks.c
  simp [go_sem, Mesh.enc, Mesh.cs]
  refine DCall_is (hs m) ?_
  cases h : m.smallO
  · simp [go_sem]
    refine DCall_is ha ?_
    simp [go_sem, law11_OrientChecks.r]
  · simp [go_sem]
    refine DCall_is (hp m) ?_
    simp [go_sem]
    refine DCall_is (hr m) ?_
    simp [go_sem]
    refine DCall_is ha ?_
    simp [go_sem, law11_OrientChecks.r]
end
end Go.Abs
