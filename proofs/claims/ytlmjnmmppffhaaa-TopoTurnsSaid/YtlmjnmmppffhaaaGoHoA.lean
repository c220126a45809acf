/- What fans do to values. -/
import Derived.Test.YtlmjnmmppffhaaaGoHo
import Derived.Test.YtlmjnmmppffhaaaGoHeap
set_option linter.unusedVariables false
set_option linter.unusedSimpArgs false
namespace Go.Abs

def isV (l : List Int) : V := .l 1 (l.map fun x => [.i .i64 x])
def fanK (l : List Int) (k : Nat) : List T3 := (List.range k).map fun i => ⟨(l[0]?).getD 0, (l[i + 1]?).getD 0, (l[i + 2]?).getD 0⟩
def fanOf (l : List Int) : List T3 := fanK l (l.length - 2)
theorem fanK_len (l : List Int) (k : Nat) : (fanK l k).length = k := by simp [fanK]
theorem fanK_succ (l : List Int) (k : Nat) : fanK l (k + 1) = fanK l k ++ [⟨(l[0]?).getD 0, (l[k + 1]?).getD 0, (l[k + 2]?).getD 0⟩] := by simp [fanK, List.range_succ]
def FanC (P : Program) (f : FuncId) : Prop := ∀ l : List Int, l.length ≤ 1000000 → CallIs P f [isV l] (tsV (fanOf l))
theorem t3_cl (t : T3) (n : Nat) : (∀ y ∈ t.cs, y.cl n = true) = True := by simp [T3.cs, V.cl, V.cl1, V.cl0]
theorem t3_isD (t : T3) : (∀ y ∈ t.cs, y.isD = true) = True := by simp [T3.cs, V.isD]

section
variable {P : Program} (hm : P.follows .mixedOrders = true)
include hm

set_option maxHeartbeats 1000000 in
theorem holes_Fan_ok {f : FuncId} (hf : FnOk P f holes_Fan.c holes_Fan.r holes_Fan.n) : FanC P f := by
  intro l hl
  refine PureC.is (pure_of hm hf (Nat.le_of_ble_eq_true rfl) ?_) rfl
  unfold holes_Fan.c
  simp [go_sem, isV]
  refine AS_loopG [.t 3 3] (α := Nat) (fun k => k ≤ l.length - 2)
    (fun k => ⟨[(0, isV l), (3, .own 0 (k + 1) 0 k), (4, .i .i64 (k + 1 : Nat))], [.arr (k + 1) 3 ((fanK l k).map T3.cs)]⟩)
    (fun k => l.length - 2 - k) 0 (Nat.zero_le _) ?_ ?_
  · simp [go_sem, isV, fanK]
  · intro k hk
    have hkl := fanK_len l k
    have hs := fanK_succ l k
    by_cases hlt : k + 2 < l.length
    · have h1 : k + 1 < l.length := by omega
      have h0 : 0 < l.length := by omega
      have g0 : l[0]? = some l[0] := List.getElem?_eq_getElem h0
      have g1 : l[k + 1]? = some l[k + 1] := List.getElem?_eq_getElem h1
      have g2 : l[k + 2]? = some l[k + 2] := List.getElem?_eq_getElem hlt
      generalize l[0] = x0 at g0
      generalize l[k + 1] = x1 at g1
      generalize l[k + 2] = x2 at g2
      obtain ⟨_, q0⟩ := List.getElem?_eq_some_iff.1 g0
      obtain ⟨_, q1⟩ := List.getElem?_eq_some_iff.1 g1
      obtain ⟨_, q2⟩ := List.getElem?_eq_some_iff.1 g2
      rw [g0, g1, g2] at hs
      have e1 : ((k : Int) + 1 + 1) = ((k + 2 : Nat) : Int) := by omega
      have e2 : ((k : Int) + 1 + 1).toNat = k + 2 := by omega
      have e3 : ((k : Int) + 1).toNat = k + 1 := by omega
      simp (disch := omega) [go_sem, isV, wrap64_small, show (k : Int) + 1 + 1 < l.length by omega, h0, h1, hlt, q0, q1, q2, g0, g1, g2, e2, e3]
      refine ⟨by omega, by omega, ⟨by omega, by omega, by omega⟩, k + 1, by omega, by omega, ⟨rfl, by omega⟩, rfl, ?_⟩
      rw [hs, List.take_of_length_le (by simp [hkl]), List.map_append]; rfl
    · have hkk : k = l.length - 2 := by omega
      have hfo : fanOf l = fanK l k := by rw [hkk]; rfl
      have ht : List.take k ((fanK l k).map T3.cs) = (fanK l k).map T3.cs := List.take_of_length_le (by simp [hkl])
      simp (disch := omega) [go_sem, isV, wrap64_small, show ¬ (k : Int) + 1 + 1 < l.length by omega, holes_Fan.r, hfo, tsV, t3_isD, hkl, ht]
theorem ref12_Fan_ok {f : FuncId} (hf : FnOk P f ref12_Fan.c ref12_Fan.r ref12_Fan.n) : FanC P f := holes_Fan_ok hm hf

theorem HolesFans_ok {f ff fr fa : FuncId} (hf : FnOk P f (law12_HolesFans.c ff fr fa) law12_HolesFans.r law12_HolesFans.n) (h1 : FanC P ff) (h2 : FanC P fr) (ha : AwakeC P fa) (l : List Int) (hl : l.length ≤ 9223372036854775807) :
    PureC P f [isV l] (· = .b true) := by
  refine pure_of hm hf (Nat.le_of_ble_eq_true rfl) ?_
  unfold law12_HolesFans.c
  have key : ∀ k : List Int, k.length ≤ 40 → (fanOf k).length ≤ 40 := fun k hk => by unfold fanOf; rw [fanK_len]; omega
  by_cases h40 : (40 : Int) < l.length
  · have hl40 : (l.take 40).length = 40 := by simp; omega
    have e1 : List.take 40 (l.map fun x => ([.i .i64 x] : List V)) = (l.take 40).map fun x => [.i .i64 x] := List.map_take.symm
    generalize hk : l.take 40 = k at e1 hl40
    have hkf := key k (by omega)
    have hq1 := h1 k (by omega)
    have hq2 := h2 k (by omega)
    simp [go_sem, isV, h40, show 40 ≤ l.length by omega, e1]
    refine ACall_is hq1 ?_
    simp [go_sem, tsV]
    refine ACall_is hq2 ?_
    simp [go_sem, tsV]
    generalize fanOf k = F at hkf
    refine AS_loop (α := Nat) (fun k => k ≤ F.length) (fun k => ⟨[(3, tsV F), (4, tsV F), (5, .i .i64 k)], []⟩) (fun k => F.length - k) 0 (Nat.zero_le _) ?_ ?_
    · simp [go_sem, tsV]
    · intro j hj
      by_cases hjl : j = F.length
      · subst hjl
        simp [go_sem, tsV]
        refine ACall_is ha ?_
        simp [go_sem, law12_HolesFans.r]
      · have hlt : j < F.length := by omega
        have hp : F[j]? = some F[j] := List.getElem?_eq_getElem hlt
        generalize F[j] = q at hp
        obtain ⟨_, hp'⟩ := List.getElem?_eq_some_iff.1 hp
        simp (disch := omega) [go_sem, tsV, hlt, hp, hp', tcs, wrap64_small]
        exact ⟨j + 1, by omega, by omega, rfl⟩
  · have hkf := key l (by omega)
    have hq1 := h1 l (by omega)
    have hq2 := h2 l (by omega)
    simp [go_sem, isV, h40]
    refine ACall_is hq1 ?_
    simp [go_sem, tsV]
    refine ACall_is hq2 ?_
    simp [go_sem, tsV]
    generalize fanOf l = F at hkf
    refine AS_loop (α := Nat) (fun k => k ≤ F.length) (fun k => ⟨[(3, tsV F), (4, tsV F), (5, .i .i64 k)], []⟩) (fun k => F.length - k) 0 (Nat.zero_le _) ?_ ?_
    · simp [go_sem, tsV]
    · intro j hj
      by_cases hjl : j = F.length
      · subst hjl
        simp [go_sem, tsV]
        refine ACall_is ha ?_
        simp [go_sem, law12_HolesFans.r]
      · have hlt : j < F.length := by omega
        have hp : F[j]? = some F[j] := List.getElem?_eq_getElem hlt
        generalize F[j] = q at hp
        obtain ⟨_, hp'⟩ := List.getElem?_eq_some_iff.1 hp
        simp (disch := omega) [go_sem, tsV, hlt, hp, hp', tcs, wrap64_small]
        exact ⟨j + 1, by omega, by omega, rfl⟩
end
end Go.Abs

