/- What the functions of package topo on edges do to values. -/
import Derived.Test.YtahpclonmobkiaaGoTo
import Derived.Test.YtahpclonmobkiaaGoTal
import Derived.Test.YtahpclonmobkiaaGoCsA
import Derived.Test.YtahpclonmobkiaaGoHeap
set_option linter.unusedVariables false
set_option linter.unusedSimpArgs false
namespace Go.Abs
open Go.Sort Go.Proofs

instance : Inhabited P2 := ⟨⟨0, 0⟩⟩
def P2.rev (e : P2) : P2 := ⟨e.y, e.x⟩
def P2.und (e : P2) : P2 := ⟨min e.x e.y, max e.x e.y⟩
def P2.ints (e : P2) : List Int := [e.x, e.y]
def tallyM (m : Mesh) : List (P2 × Int) := if m.check = 0 then tally (alluses m.tris) else []
def CountedC (P : Program) (f : FuncId) : Prop := ∀ m : Mesh, NewC P f [m.enc] (fun r h => r = .mp 1 ∧ h = [.dead, .mp ((tallyM m).map asV)])
def RevC (P : Program) (f : FuncId) : Prop := ∀ e : P2, CallIs P f [e.enc] e.rev.enc
def UndC (P : Program) (f : FuncId) : Prop := ∀ e : P2, CallIs P f [e.enc] e.und.enc
def OrC (P : Program) (f : FuncId) : Prop := ∀ x y : Int, CallIs P f [.l 1 [[.i .i64 x], [.i .i64 y]]] (.i .i64 (if x ≠ 0 then x else y))
def cmpE (a b : P2) : Int := if cmpI a.x b.x ≠ 0 then cmpI a.x b.x else cmpI a.y b.y
def OrderC (P : Program) (f : FuncId) : Prop := ∀ a b : P2, CallIs P f [a.enc, b.enc] (.i .i64 (cmpE a b))

theorem ltE (a b : P2) : ltOf cmpE a b = decide (P2.lt a b) := by
  unfold ltOf cmpE cmpI P2.lt
  by_cases h1 : a.x < b.x
  · simp [h1]
  · by_cases h2 : b.x < a.x
    · simp [h1, h2]; omega
    · have h3 : a.x = b.x := by omega
      by_cases h4 : a.y < b.y
      · simp [h3, h4]
      · by_cases h5 : b.y < a.y <;> simp [h3, h4, h5]
theorem swoE : SWO (ltOf cmpE) where
  irrefl x := by rw [ltE]; simp [P2.lt]
  trans x y z h1 h2 := by
    rw [ltE, decide_eq_true_eq] at *
    exact P2.lt_trans h1 h2
  ntrans x y z h1 h2 := by
    rw [ltE, decide_eq_false_iff_not] at *
    unfold P2.lt at *; omega

section
variable {P : Program} (hm : P.follows .mixedOrders = true)
include hm

theorem topo_edges_ok {f : FuncId} (hf : FnOk P f topo_edges.c topo_edges.r topo_edges.n) : EdgesC P f := orient_edges_ok hm hf
theorem topo_reverse_ok {f : FuncId} (hf : FnOk P f topo_reverse.c topo_reverse.r topo_reverse.n) : RevC P f := by
  intro e
  refine PureC.is (pure_of hm hf (Nat.le_of_ble_eq_true rfl) ?_) rfl
  unfold topo_reverse.c
  simp [go_sem, P2.enc, P2.cs, topo_reverse.r, P2.rev]
theorem topo_undirected_ok {f : FuncId} (hf : FnOk P f topo_undirected.c topo_undirected.r topo_undirected.n) : UndC P f := by
  intro e
  refine PureC.is (pure_of hm hf (Nat.le_of_ble_eq_true rfl) ?_) rfl
  unfold topo_undirected.c
  simp [go_sem, P2.enc, P2.cs, topo_undirected.r, P2.und, min_if, max_if]
theorem Or_ok {f : FuncId} (hf : FnOk P f cmp_Or_int.c cmp_Or_int.r cmp_Or_int.n) : OrC P f := by
  intro x y
  refine PureC.is (pure_of hm hf (Nat.le_of_ble_eq_true rfl) ?_) rfl
  unfold cmp_Or_int.c
  simp [go_sem]
  refine AS_loop (α := Nat) (fun k => k ≤ 2 ∧ (1 ≤ k → x = 0) ∧ (2 ≤ k → y = 0))
    (fun k => ⟨[(3, .i .i64 0), (6, .l 1 [[.i .i64 x], [.i .i64 y]]), (7, .i .i64 2), (8, .i .i64 k)], []⟩)
    (fun k => 2 - k) 0 ⟨by omega, by omega, by omega⟩ ?_ ?_
  · simp [go_sem]
  · rintro k ⟨hk, h1, h2⟩
    have w1 : IntKind.i64.wrap 1 = 1 := rfl
    have w2 : IntKind.i64.wrap 2 = 2 := rfl
    have : k = 0 ∨ k = 1 ∨ k = 2 := by omega
    rcases this with rfl | rfl | rfl
    · by_cases hx : x = 0
      · simp [go_sem, hx, w1]
        exact ⟨1, ⟨by omega, fun h => by omega⟩, by omega, rfl⟩
      · simp [go_sem, hx, cmp_Or_int.r]
    · have hx := h1 (by omega)
      by_cases hy : y = 0
      · simp [go_sem, hx, hy, w2]
        exact ⟨2, by omega, by omega, rfl⟩
      · simp [go_sem, hx, hy, cmp_Or_int.r]
    · have hx := h1 (by omega)
      have hy := h2 (by omega)
      simp [go_sem, hx, hy, cmp_Or_int.r]
theorem topo_order_ok {f fc fo : FuncId} (hf : FnOk P f (topo_order.c fc fo) topo_order.r topo_order.n) (hc : CmpC P fc) (ho : OrC P fo) : OrderC P f := by
  intro a b
  refine PureC.is (pure_of hm hf (Nat.le_of_ble_eq_true rfl) ?_) rfl
  unfold topo_order.c
  simp [go_sem, P2.enc, P2.cs]
  refine DCall_is (hc a.x b.x) ?_
  simp [go_sem]
  refine DCall_is (hc a.y b.y) ?_
  simp [go_sem]
  refine DCall_is (ho _ _) ?_
  simp [go_sem, topo_order.r, cmpE]

set_option maxHeartbeats 4000000 in
theorem topo_counted_ok {f fc fe : FuncId} (hf : FnOk P f (topo_counted.c fc fe) topo_counted.r topo_counted.n) (hc : CheckC P fc) (he : EdgesC P fe) : CountedC P f := by
  intro m
  refine new_of hm hf (Nat.le_of_ble_eq_true rfl) ?_
  unfold topo_counted.c
  simp [go_sem, Mesh.enc, Mesh.cs]
  refine ACall_is (hc m) ?_
  by_cases hz : m.check = 0
  case neg =>
    have hT : tallyM m = [] := by simp [tallyM, hz]
    simp [go_sem, hz, topo_counted.r, hT]
  have hl := (Mesh.check_zero.1 hz).2.1
  simp [go_sem, hz, tsV]
  refine AS_loop (α := Nat) (fun k => k ≤ m.tris.length)
    (fun k => ⟨[(3, .mp 1), (14, tsV m.tris), (15, .i .i64 m.tris.length), (16, .i .i64 k)], [.dead, .mp ((tally (alluses (m.tris.take k))).map asV)]⟩)
    (fun k => m.tris.length - k) 0 (by omega) ?_ ?_
  · simp [go_sem, tsV, alluses, tally]
  · intro k hk
    by_cases hkl : k = m.tris.length
    · subst hkl
      rw [List.take_length]
      have hT : tallyM m = tally (alluses m.tris) := by simp [tallyM, hz]
      simp [go_sem, tsV, topo_counted.r, hT]
      exact asV_cl _ 2
    · have hlt : k < m.tris.length := by omega
      have hp : m.tris[k]? = some m.tris[k] := List.getElem?_eq_getElem hlt
      generalize m.tris[k] = t at hp
      obtain ⟨_, hp'⟩ := List.getElem?_eq_some_iff.1 hp
      simp [go_sem, tsV, hlt, hp', tcs]
      refine ACall_is (he t) ?_
      have hlen : (edgesOf t).length ≤ 3 := edgesK_le t 3
      have hE := alluses_len m.tris k
      generalize hA : alluses (m.tris.take k) = A0
      simp [go_sem, psV]
      refine AS_loop (α := Nat) (fun j => j ≤ (edgesOf t).length)
        (fun j => ⟨[(3, .mp 1), (14, tsV m.tris), (15, .i .i64 m.tris.length), (16, .i .i64 k), (21, psV (edgesOf t)), (22, .i .i64 (edgesOf t).length), (23, .i .i64 j)], [.dead, .mp ((tally (A0 ++ (edgesOf t).take j)).map asV)]⟩)
        (fun j => (edgesOf t).length - j) 0 (by omega) ?_ ?_
      · simp [go_sem, tsV, psV]
        exact asV_cl _ 2
      · intro j hj
        by_cases hjl : j = (edgesOf t).length
        · subst hjl
          simp (disch := omega) [go_sem, tsV, psV, wrap64_small]
          exact ⟨k + 1, by omega, by omega, by omega, by rw [alluses_succ hp, hA], asV_cl _ 2⟩
        · have hjlt : j < (edgesOf t).length := by omega
          have hq : (edgesOf t)[j]? = some (edgesOf t)[j] := List.getElem?_eq_getElem hjlt
          have htk : (edgesOf t).take (j + 1) = (edgesOf t).take j ++ [(edgesOf t)[j]] := by rw [List.take_add_one, hq]; rfl
          generalize (edgesOf t)[j] = e at hq htk
          obtain ⟨_, hq'⟩ := List.getElem?_eq_some_iff.1 hq
          have hS1 : A0 ++ (edgesOf t).take (j + 1) = (A0 ++ (edgesOf t).take j) ++ [e] := by rw [htk, ← List.append_assoc]
          generalize hS : A0 ++ (edgesOf t).take j = S at hS1
          have hT1 := tally_snoc S e
          rw [← hS1] at hT1
          generalize hL : tally S = L at hT1
          have h1 := findE_asV e L
          unfold addE at hT1
          cases hfn : fnd e L with
          | some p =>
            obtain ⟨i, n⟩ := p
            rw [hfn] at h1 hT1
            simp only [Option.map_some] at h1
            simp only at hT1
            have hn : n = S.count e := by
              have := val_tally S e
              rw [hL, val, hfn] at this
              exact this
            have hcl : S.count e ≤ S.length := List.count_le_length
            have hSl : S.length ≤ 3 * 4096 := by
              rw [← hS, ← hA, List.length_append, List.length_take]; omega
            have h3 : fnd e (L.set i (e, n + 1)) = some (i, n + 1) := (fnd_set (n' := n + 1) hfn).2
            have hil : i < L.length := (List.getElem?_eq_some_iff.1 (fnd_set (n' := n + 1) hfn).1).1
            have hil' : i < (List.map asV L).length := by simpa using hil
            have wn : IntKind.i64.wrap (n + 1) = n + 1 := wrap64_small (by omega) (by omega)
            simp [go_sem, psV, hjlt, hq', pcs, h1, wn, List.getElem?_set_self hil', List.set_set]
            refine ⟨j + 1, by omega, by omega, ⟨.inr rfl, wrap64_small (by omega) (by omega)⟩, ?_, asV_cl _ 2⟩
            rw [hT1, List.map_set]; rfl
          | none =>
            rw [hfn] at h1 hT1
            simp only [Option.map_none] at h1
            have w1 : IntKind.i64.wrap 1 = 1 := rfl
            simp only at hT1
            simp [go_sem, psV, hjlt, hq', pcs, h1, w1]
            refine ⟨j + 1, by omega, by omega, ⟨.inr rfl, wrap64_small (by omega) (by omega)⟩, ?_, asV_cl _ 2⟩
            rw [hT1, List.map_append]; rfl
end
end Go.Abs

