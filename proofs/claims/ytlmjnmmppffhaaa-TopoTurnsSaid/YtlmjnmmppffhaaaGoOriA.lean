/- What the functions on directed edges do to values. -/
import Derived.Test.YtlmjnmmppffhaaaGoOri
import Derived.Test.YtlmjnmmppffhaaaGoSet
import Derived.Test.YtlmjnmmppffhaaaGoRevC
set_option linter.unusedVariables false
set_option linter.unusedSimpArgs false
namespace Go.Abs

def edges3 (t : T3) : List P2 := [⟨t.a, t.b⟩, ⟨t.b, t.c⟩, ⟨t.c, t.a⟩]
def edgesK (t : T3) (k : Nat) : List P2 := ((edges3 t).take k).filter fun e => decide (e.x ≠ e.y)
def edgesOf (t : T3) : List P2 := edgesK t 3
def EdgesC (P : Program) (f : FuncId) : Prop := ∀ t : T3, CallIs P f [t.enc] (psV (edgesOf t))

theorem p2_isD (p : P2) : (∀ y ∈ p.cs, y.isD = true) = True := by simp [P2.cs, V.isD]
theorem p2_cl (t : P2) (n : Nat) : (∀ y ∈ t.cs, y.cl n = true) = True := by simp [P2.cs, V.cl, V.cl1, V.cl0]
theorem p2_clm (l : List P2) (n : Nat) : ∀ el ∈ l.map P2.cs, ∀ y ∈ el, y.cl n = true := by
  intro el hel y hy
  obtain ⟨p, _, rfl⟩ := List.mem_map.1 hel
  exact of_eq_true (p2_cl p n) y hy

theorem p2_cla (l : List P2) (n : Nat) : (∀ a : P2, a ∈ l → ∀ x ∈ a.cs, x.cl n = true) = True := by
  simp [p2_cl]

theorem edgesK_0 (t : T3) : edgesK t 0 = [] := rfl
theorem filt1 (x y : Int) (l : List P2) : (l ++ [(⟨x, y⟩ : P2)]).filter (fun e => decide (e.x ≠ e.y)) = if x = y then l.filter (fun e => decide (e.x ≠ e.y)) else l.filter (fun e => decide (e.x ≠ e.y)) ++ [⟨x, y⟩] := by
  rw [List.filter_append]
  by_cases h : x = y <;> simp [h]
theorem edgesK_1 (t : T3) : edgesK t 1 = if t.a = t.b then edgesK t 0 else edgesK t 0 ++ [⟨t.a, t.b⟩] := filt1 t.a t.b []
theorem edgesK_2 (t : T3) : edgesK t 2 = if t.b = t.c then edgesK t 1 else edgesK t 1 ++ [⟨t.b, t.c⟩] := filt1 t.b t.c [⟨t.a, t.b⟩]
theorem edgesK_3 (t : T3) : edgesK t 3 = if t.c = t.a then edgesK t 2 else edgesK t 2 ++ [⟨t.c, t.a⟩] := filt1 t.c t.a [⟨t.a, t.b⟩, ⟨t.b, t.c⟩]
theorem edgesK_le (t : T3) (k : Nat) : (edgesK t k).length ≤ 3 := by
  refine Nat.le_trans (List.length_filter_le _ _) ?_
  simp [edges3]; omega

section
variable {P : Program} (hm : P.follows .mixedOrders = true)
include hm

set_option maxHeartbeats 4000000 in
theorem orient_edges_ok {f : FuncId} (hf : FnOk P f orient_edges.c orient_edges.r orient_edges.n) : EdgesC P f := by
  intro t
  refine PureC.is (pure_of hm hf (Nat.le_of_ble_eq_true rfl) ?_) rfl
  unfold orient_edges.c
  simp [go_sem, T3.enc, T3.cs]
  have w1 : IntKind.i64.wrap 1 = 1 := rfl
  have w2 : IntKind.i64.wrap 2 = 2 := rfl
  have w3 : IntKind.i64.wrap 3 = 3 := rfl
  refine AS_loopG [.t 3 2] (α := Nat) (fun k => k ≤ 3)
    (fun k => ⟨[(3, .own 1 ((edgesK t k).length + 1) 0 (edgesK t k).length), (21, .a [.i .i64 t.a, .i .i64 t.b, .i .i64 t.b, .i .i64 t.c, .i .i64 t.c, .i .i64 t.a]), (22, .i .i64 k)],
      [.dead, .arr ((edgesK t k).length + 1) 2 ((edgesK t k).map P2.cs)]⟩)
    (fun k => 3 - k) 0 (by omega) ?_ ?_
  · simp [go_sem, edgesK_0]
  · intro k hk
    have hl := edgesK_le t k
    by_cases h3 : k = 3
    · subst h3
      simp [go_sem, orient_edges.r, psV, edgesOf, p2_isD]
    · have : k = 0 ∨ k = 1 ∨ k = 2 := by omega
      rcases this with rfl | rfl | rfl
      · have hs := edgesK_1 t
        generalize hE : edgesK t 0 = E0 at hs hl
        by_cases h : t.a = t.b
        · rw [if_pos h] at hs
          simp [go_sem, h, w1, w2, w3]
          exact ⟨1, by omega, by omega, by simp [hs], by simp [hs], by simp [p2_cl]⟩
        · rw [if_neg h] at hs
          simp [go_sem, h, w1, w2, w3]
          exact ⟨by omega, 1, by omega, by omega, by simp [hs], by simp [hs, pcs, or_imp, forall_and, V.cl, V.cl1, V.cl0]⟩
      · have hs := edgesK_2 t
        generalize hE : edgesK t 1 = E0 at hs hl
        by_cases h : t.b = t.c
        · rw [if_pos h] at hs
          simp [go_sem, h, w1, w2, w3]
          exact ⟨2, by omega, by omega, by simp [hs], by simp [hs], by simp [p2_cl]⟩
        · rw [if_neg h] at hs
          simp [go_sem, h, w1, w2, w3]
          exact ⟨by omega, 2, by omega, by omega, by simp [hs], by simp [hs, pcs, or_imp, forall_and, V.cl, V.cl1, V.cl0]⟩
      · have hs := edgesK_3 t
        generalize hE : edgesK t 2 = E0 at hs hl
        by_cases h : t.c = t.a
        · rw [if_pos h] at hs
          simp [go_sem, h, w1, w2, w3]
          exact ⟨3, by omega, by omega, by simp [hs], by simp [hs], by simp [p2_cl]⟩
        · rw [if_neg h] at hs
          simp [go_sem, h, w1, w2, w3]
          exact ⟨by omega, 3, by omega, by omega, by simp [hs], by simp [hs, pcs, or_imp, forall_and, V.cl, V.cl1, V.cl0]⟩
end
end Go.Abs

