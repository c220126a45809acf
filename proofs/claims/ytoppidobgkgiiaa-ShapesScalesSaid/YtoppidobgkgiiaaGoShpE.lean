/- What the functions on bases do to values: convex bases, levels, bottoms. -/
import Derived.Test.YtoppidobgkgiiaaGoShpD
set_option linter.unusedVariables false
set_option linter.unusedSimpArgs false
namespace Go.Abs

def levelVs (l : List P2) (z : Int) : List V3 := l.map fun p => ⟨p.x, p.y, z⟩
def LevelC (P : Program) (f : FuncId) : Prop := ∀ (l : List P2) (z : Int), l.length ≤ 1000 → NewC P f [psV l, .i .i64 z] (fun r h => r = .own 0 (l.length + 1) 0 l.length ∧ h = [.arr (l.length + 1) 3 ((levelVs l z).map V3.cs)])
def bottomT (k : Nat) : T3 := ⟨0, (k : Int) + 2, (k : Int) + 1⟩
def bottomTs (n : Nat) : List T3 := (List.range n).map bottomT
def BottomC (P : Program) (f : FuncId) : Prop := ∀ n : Nat, n ≤ 1000 → NewC P f [.i .i64 ((n : Int) + 2)] (fun r h => r = .own 0 (n + 1) 0 n ∧ h = [.arr (n + 1) 3 ((bottomTs n).map T3.cs)])

section
variable {P : Program} (hm : P.follows .mixedOrders = true)
include hm

set_option maxHeartbeats 4000000 in
theorem shapes_level_ok {f : FuncId} (hf : FnOk P f shapes_level.c shapes_level.r shapes_level.n) : LevelC P f := by
  intro l z hl
  refine new_of hm hf (Nat.le_of_ble_eq_true rfl) ?_
  unfold shapes_level.c
  simp [go_sem, psV]
  refine AS_loopG [.t 5 3] (α := Nat) (fun k => k ≤ l.length)
    (fun k => ⟨[(1, .i .i64 z), (5, .own 0 (k + 1) 0 k), (8, psV l), (9, .i .i64 l.length), (10, .i .i64 k)], [.arr (k + 1) 3 ((levelVs (l.take k) z).map V3.cs)]⟩)
    (fun k => l.length - k) 0 (Nat.zero_le _) ?_ ?_
  · simp [go_sem, psV, levelVs]
  · intro k hk
    cases hp : l[k]? with
    | none =>
      have : ¬ k < l.length := by simpa using hp
      obtain rfl : k = l.length := by omega
      simp [go_sem, psV, shapes_level.r]
    | some p =>
      obtain ⟨hlt, hp'⟩ := List.getElem?_eq_some_iff.1 hp
      simp [go_sem, psV, hlt, hp', pcs]
      simp (disch := omega) [go_sem, wrap64_small]
      have hsucc : l.take (k + 1) = l.take k ++ [p] := by simp [List.take_add_one, hp]
      have hlen : (levelVs (l.take k) z).length = k := by simp [levelVs]; omega
      refine ⟨⟨by omega, by omega, by omega⟩, k + 1, by omega, by omega, ⟨rfl, by omega⟩, rfl, ?_⟩
      rw [List.take_of_length_le (by simp [hlen]), hsucc]
      simp [levelVs, V3.cs]
theorem ref13_at_ok {f : FuncId} (hf : FnOk P f ref13_at.c ref13_at.r ref13_at.n) : LevelC P f := shapes_level_ok hm hf

set_option maxHeartbeats 4000000 in
theorem shapes_bottom_ok {f : FuncId} (hf : FnOk P f shapes_bottom.c shapes_bottom.r shapes_bottom.n) : BottomC P f := by
  intro n hn
  refine new_of hm hf (Nat.le_of_ble_eq_true rfl) ?_
  unfold shapes_bottom.c
  simp [go_sem]
  refine AS_loopG [.t 3 3] (α := Nat) (fun k => k ≤ n)
    (fun k => ⟨[(0, .i .i64 ((n : Int) + 2)), (3, .own 0 (k + 1) 0 k), (4, .i .i64 ((k : Int) + 1))], [.arr (k + 1) 3 ((bottomTs k).map T3.cs)]⟩)
    (fun k => n - k) 0 (Nat.zero_le _) ?_ ?_
  · simp [go_sem, bottomTs]
  · intro k hk
    by_cases hkn : k = n
    · subst hkn
      simp (disch := omega) [go_sem, wrap64_small, shapes_bottom.r, show ¬ (k : Int) + 1 < (k : Int) + 2 - 1 by omega]
    · simp (disch := omega) [go_sem, wrap64_small, show (k : Int) + 1 < (n : Int) + 2 - 1 by omega]
      have hlen : (bottomTs k).length = k := by simp [bottomTs]
      refine ⟨⟨by omega, by omega, by omega⟩, k + 1, by omega, by omega, ⟨rfl, by omega⟩, rfl, ?_⟩
      rw [List.take_of_length_le (by simp [hlen])]
      simp [bottomTs, List.range_succ, bottomT, T3.cs]
      omega

set_option maxHeartbeats 4000000 in
theorem shapes_convex_ok {f ft : FuncId} (hf : FnOk P f (shapes_convex.c ft) shapes_convex.r shapes_convex.n) (ht : Turn2C P ft) : ConvexC P f := by
  intro l hl
  refine PureC.is (pure_of hm hf (Nat.le_of_ble_eq_true rfl) ?_) rfl
  unfold shapes_convex.c
  simp [go_sem, psV]
  refine AS_loop (α := Nat) (fun k => k ≤ l.length ∧ ∀ k', k' < k → ∀ i, i < l.length → convexAt l k' i = true)
    (fun k => ⟨[(0, psV l), (8, psV l), (9, .i .i64 l.length), (10, .i .i64 k)], []⟩)
    (fun k => l.length - k) 0 ⟨Nat.zero_le _, by omega⟩ ?_ ?_
  · simp [go_sem, psV]
  · rintro k ⟨hk, hok⟩
    cases hp : l[k]? with
    | none =>
      have : ¬ k < l.length := by simpa using hp
      obtain rfl : k = l.length := by omega
      simp [go_sem, psV, shapes_convex.r]
      simpa [convexB] using hok
    | some p =>
      obtain ⟨hlt, hp'⟩ := List.getElem?_eq_some_iff.1 hp
      have hne : ¬ l = [] := by rintro rfl; simp at hlt
      have hj : ((k : Int) + 1).tmod (l.length : Int) = (((k + 1) % l.length : Nat) : Int) := by
        rw [Int.tmod_eq_emod_of_nonneg (by omega)]; simp
      have hjl : (k + 1) % l.length < l.length := Nat.mod_lt _ (by omega)
      have hat : ∀ i, convexAt l k i = (decide (i = k) || decide (i = (k + 1) % l.length) || decide (0 < turn2 (l.getD k ⟨0, 0⟩) (l.getD ((k + 1) % l.length) ⟨0, 0⟩) (l.getD i ⟨0, 0⟩))) := fun i => rfl
      generalize (k + 1) % l.length = j at hj hjl hat
      have hpd : l.getD k ⟨0, 0⟩ = p := by simp [hp]
      have hjd : l.getD j ⟨0, 0⟩ = l[j] := by simp [hjl]
      rw [hpd, hjd] at hat
      simp [go_sem, psV, hlt, hp', pcs]
      simp (disch := omega) [go_sem, wrap64_small, hne, hj]
      refine AS_loop (α := Nat) (fun i => i ≤ l.length ∧ ∀ i', i' < i → convexAt l k i' = true)
        (fun i => ⟨[(0, psV l), (3, .i .i64 k), (4, .p 0 1 0 0), (5, .i .i64 j), (8, psV l), (9, .i .i64 l.length), (10, .i .i64 k), (20, psV l), (21, .i .i64 l.length), (22, .i .i64 i)], [.arr 1 2 [p.cs]]⟩)
        (fun i => l.length - i) 0 ⟨Nat.zero_le _, by omega⟩ ?_ ?_
      · simp [go_sem, psV, pcs]
      · rintro i ⟨hi, hoki⟩
        cases hq : l[i]? with
        | none =>
          have : ¬ i < l.length := by simpa using hq
          obtain rfl : i = l.length := by omega
          simp (disch := omega) [go_sem, psV, wrap64_small]
          refine ⟨k + 1, ⟨by omega, fun k' hk' i' hi' => ?_⟩, by omega, by omega⟩
          by_cases h : k' = k
          · subst h; exact hoki i' hi'
          · exact hok k' (by omega) i' hi'
        | some q =>
          obtain ⟨hlti, hq'⟩ := List.getElem?_eq_some_iff.1 hq
          have hqd : l.getD i ⟨0, 0⟩ = q := by simp [hq]
          have hnext : convexAt l k i = true → ∀ i', i' < i + 1 → convexAt l k i' = true := fun h i' hi' => by
            by_cases h' : i' = i
            · subst h'; exact h
            · exact hoki i' (by omega)
          by_cases hik : i = k
          · have hcv : convexAt l k i = true := by rw [hat]; simp [hik]
            have e1 : ((i : Int) != (k : Int)) = false := by simp [hik]
            simp (disch := omega) [go_sem, psV, wrap64_small, hlti, hq', pcs, e1]
            exact ⟨i + 1, ⟨by omega, hnext hcv⟩, by omega, by omega⟩
          · have e1 : ((i : Int) != (k : Int)) = true := by simp; omega
            by_cases hij : i = j
            · have hcv : convexAt l k i = true := by rw [hat]; simp [hij]
              have e2 : ((i : Int) != (j : Int)) = false := by simp [hij]
              simp (disch := omega) [go_sem, psV, wrap64_small, hlti, hq', pcs, e1, e2]
              exact ⟨i + 1, ⟨by omega, hnext hcv⟩, by omega, by omega⟩
            · have e2 : ((i : Int) != (j : Int)) = true := by simp; omega
              simp (disch := omega) [go_sem, psV, wrap64_small, hlti, hq', hjl, pcs, e1, e2]
              refine DCall_is (ht p l[j] q) ?_
              by_cases hturn : 0 < turn2 p l[j] q
              · have hcv : convexAt l k i = true := by rw [hat, hqd]; simp [hturn]
                simp (disch := omega) [go_sem, psV, wrap64_small, pcs, show ¬ turn2 p l[j] q ≤ 0 by omega]
                exact ⟨i + 1, ⟨by omega, hnext hcv⟩, by omega, by omega⟩
              · simp (disch := omega) [go_sem, shapes_convex.r, show turn2 p l[j] q ≤ 0 by omega]
                have hcf : convexAt l k i = false := by rw [hat, hqd]; simp [hik, hij, hturn]
                rw [Bool.eq_false_iff]
                intro hcv
                have := (of_decide_eq_true hcv) k hlt i hlti
                rw [hcf] at this; cases this
end
end Go.Abs

