/- The statement on balanced sections, by values. -/
import Derived.Test.YtaffnmhokdhgdaaGoSecB
import Derived.Test.YtaffnmhokdhgdaaGoSecA
set_option linter.unusedVariables false
set_option linter.unusedSimpArgs false
namespace Go.Abs

def BalC (P : Program) (f : FuncId) : Prop := ∀ l : List Sg4, l.length ≤ 4096 → (∀ p : Int × Int, l.countP (fun s => decide (s.a = p)) = l.countP (fun s => decide (s.b = p))) → CallIs P f [segV l] (.b true)

section
variable {P : Program} (hm : P.follows .mixedOrders = true)
include hm

set_option maxHeartbeats 2000000 in
theorem law15_balanced_ok {f : FuncId} (hf : FnOk P f law15_balanced.c law15_balanced.r law15_balanced.n) : BalC P f := by
  intro l hl hbal
  refine PureC.is (pure_of hm hf (Nat.le_of_ble_eq_true rfl) ?_) rfl
  unfold law15_balanced.c
  simp [go_sem, segV]
  refine AS_loop (α := Nat) (fun k => k ≤ l.length) (fun k => ⟨[(0, segV l), (3, .i .i64 k)], []⟩) (fun k => l.length - k) 0 (Nat.zero_le _) ?_ ?_
  · simp [go_sem, segV]
  · intro k hk
    by_cases hkl : k = l.length
    · subst hkl
      simp [go_sem, segV, law15_balanced.r]
    · have hlt : k < l.length := by omega
      have hp : l[k]? = some l[k] := List.getElem?_eq_getElem hlt
      generalize l[k] = s0 at hp
      obtain ⟨_, hp'⟩ := List.getElem?_eq_some_iff.1 hp
      generalize hA : s0.a = A
      simp [go_sem, segV, hlt]
      have hcA : ∀ j, (l.take j).countP (fun s => decide (s.a = A)) ≤ j := fun j => Nat.le_trans List.countP_le_length (by simp; omega)
      have hcB : ∀ j, (l.take j).countP (fun s => decide (s.b = A)) ≤ j := fun j => Nat.le_trans List.countP_le_length (by simp; omega)
      refine AS_loop (α := Nat) (fun j => j ≤ l.length)
        (fun j => ⟨[(0, segV l), (3, .i .i64 k), (4, .i .i64 (((l.take j).countP (fun s => decide (s.a = A)) : Nat) - ((l.take j).countP (fun s => decide (s.b = A)) : Nat))), (5, .i .i64 j)], []⟩)
        (fun j => l.length - j) 0 (Nat.zero_le _) ?_ ?_
      · simp [go_sem, segV]
      · intro j hj
        have hA1 := hcA j
        have hB1 := hcB j
        by_cases hjl : j = l.length
        · subst hjl
          have hb := hbal A
          rw [List.take_length]
          have h0 : ((l.countP (fun s => decide (s.a = A)) : Nat) : Int) - ((l.countP (fun s => decide (s.b = A)) : Nat) : Int) = 0 := by omega
          simp (disch := omega) [go_sem, segV, h0, wrap64_small]
          exact ⟨k + 1, by omega, by omega, rfl⟩
        · have hjlt : j < l.length := by omega
          have hq : l[j]? = some l[j] := List.getElem?_eq_getElem hjlt
          generalize l[j] = q at hq
          obtain ⟨_, hq'⟩ := List.getElem?_eq_some_iff.1 hq
          have ha : (l.take (j + 1)).countP (fun s => decide (s.a = A)) = (l.take j).countP (fun s => decide (s.a = A)) + if q.a = A then 1 else 0 := by
            rw [List.take_add_one, hq, List.countP_append]; simp [List.countP_cons]
          have hb : (l.take (j + 1)).countP (fun s => decide (s.b = A)) = (l.take j).countP (fun s => decide (s.b = A)) + if q.b = A then 1 else 0 := by
            rw [List.take_add_one, hq, List.countP_append]; simp [List.countP_cons]
          by_cases c1 : q.a = A <;> by_cases c2 : q.b = A <;> simp only [c1, c2, if_true, if_false] at ha hb
          all_goals
            have d1 := c1
            have d2 := c2
            rw [Prod.ext_iff] at d1 d2
            generalize hx : (l.take j).countP (fun s => decide (s.a = A)) = x at *
            generalize hy : (l.take j).countP (fun s => decide (s.b = A)) = y at *
            simp (disch := omega) [go_sem, segV, hlt, hjlt, hp, hq, hp', hq', Sg4.cs, hA, d1, d2, wrap64_small]
            intros
            exact ⟨j + 1, by omega, by omega, by omega, by omega⟩

theorem SectionBalanced_ok {f fs fa fp fc fb : FuncId} (hf : FnOk P f (law15_SectionBalanced.c fs fa fp fc fb) law15_SectionBalanced.r law15_SectionBalanced.n) (hs : SmallC P fs) (ha : AwakeC P fa) (hp : SecC P fp) (hc : ClosedC P fc) (hb : BalC P fb) (m : Mesh) (z : Int) :
    PureC P f [m.enc, .i .i64 z] (· = .b true) := by
  refine pure_of hm hf (Nat.le_of_ble_eq_true rfl) ?_
  unfold law15_SectionBalanced.c
  simp [go_sem, Mesh.enc, Mesh.cs, vsV, tsV]
  refine ACall_is (hs m) ?_
  cases h : m.small
  · simp [go_sem]
    refine ACall_is ha ?_
    simp [go_sem, law15_SectionBalanced.r]
  · simp [go_sem]
    refine ACall_is (hp m z) ?_
    by_cases h0 : (secCut m z).2 = 0
    · simp [go_sem, secL, h0]
      refine ACall_is (hc m) ?_
      cases hcl : m.closed
      · simp [go_sem]
        refine ACall_is ha ?_
        simp [go_sem, law15_SectionBalanced.r]
      · simp [go_sem]
        refine ACall_is (hb _ (secCut_len m z) fun p => segs_balanced hcl p) ?_
        simp [go_sem]
        refine ACall_is ha ?_
        simp [go_sem, law15_SectionBalanced.r]
    · have h0' : ((secCut m z).2 != 0) = true := by simpa using h0
      simp [go_sem, secL, h0, h0']
      refine ACall_is ha ?_
      simp [go_sem, law15_SectionBalanced.r]
end
end Go.Abs

