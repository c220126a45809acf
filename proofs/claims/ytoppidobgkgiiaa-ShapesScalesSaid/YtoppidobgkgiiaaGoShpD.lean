/- What the functions on bases do to values: turns, convex bases. -/
import Derived.Test.YtoppidobgkgiiaaGoShpA
set_option linter.unusedVariables false
set_option linter.unusedSimpArgs false
namespace Go.Abs

def P2.valid (p : P2) : Bool := decide (-16777216 ≤ p.x) && decide (p.x ≤ 16777216) && decide (-16777216 ≤ p.y) && decide (p.y ≤ 16777216)
theorem P2.valid_iff {p : P2} : p.valid = true ↔ (-16777216 ≤ p.x ∧ p.x ≤ 16777216 ∧ -16777216 ≤ p.y ∧ p.y ≤ 16777216) := by simp [P2.valid, and_assoc]
def cross0 (a b c : P2) : Int := (b.x - a.x) * (c.y - a.y) - (b.y - a.y) * (c.x - a.x)
def cross2 (a b c : P2) : Int := if a.valid = true ∧ b.valid = true ∧ c.valid = true then cross0 a b c else 0
def turn2 (a b c : P2) : Int := if 0 < cross2 a b c then 1 else if cross2 a b c < 0 then -1 else 0
def PValidC (P : Program) (f : FuncId) : Prop := ∀ p : P2, CallIs P f [p.enc] (.b p.valid)
def Cross2C (P : Program) (f : FuncId) : Prop := ∀ a b c : P2, CallIs P f [a.enc, b.enc, c.enc] (.i .i64 (cross2 a b c))
def Turn2C (P : Program) (f : FuncId) : Prop := ∀ a b c : P2, CallIs P f [a.enc, b.enc, c.enc] (.i .i64 (turn2 a b c))

theorem mul_bd {a b : Int} {k m : Nat} (ha : -(k : Int) ≤ a ∧ a ≤ k) (hb : -(m : Int) ≤ b ∧ b ≤ m) : -((k * m : Nat) : Int) ≤ a * b ∧ a * b ≤ (k * m : Nat) := by
  have h1 : a.natAbs ≤ k := by omega
  have h2 : b.natAbs ≤ m := by omega
  have h3 := Nat.mul_le_mul h1 h2
  rw [← Int.natAbs_mul] at h3
  omega

def convexAt (l : List P2) (k i : Nat) : Bool := decide (i = k) || decide (i = (k + 1) % l.length) || decide (0 < turn2 (l.getD k ⟨0, 0⟩) (l.getD ((k + 1) % l.length) ⟨0, 0⟩) (l.getD i ⟨0, 0⟩))
def convexB (l : List P2) : Bool := decide (∀ k, k < l.length → ∀ i, i < l.length → convexAt l k i = true)
def ConvexC (P : Program) (f : FuncId) : Prop := ∀ l : List P2, l.length ≤ 1000 → CallIs P f [psV l] (.b (convexB l))

section
variable {P : Program} (hm : P.follows .mixedOrders = true)
include hm

theorem planar_Valid_ok {f : FuncId} (hf : FnOk P f planar_Valid.c planar_Valid.r planar_Valid.n) : PValidC P f := by
  intro p
  refine PureC.is (pure_of hm hf (Nat.le_of_ble_eq_true rfl) ?_) rfl
  unfold planar_Valid.c
  simp +contextual -implicitDefEqProofs [go_sem, P2.enc, P2.cs, planar_Valid.r]
  simp [P2.valid, and_assoc]
theorem ref05_Valid_ok {f : FuncId} (hf : FnOk P f ref05_Valid.c ref05_Valid.r ref05_Valid.n) : PValidC P f := planar_Valid_ok hm hf

theorem planar_Cross_ok {f fv : FuncId} (hf : FnOk P f (planar_Cross.c fv) planar_Cross.r planar_Cross.n) (hv : PValidC P fv) : Cross2C P f := by
  intro a b c
  refine PureC.is (pure_of hm hf (Nat.le_of_ble_eq_true rfl) ?_) rfl
  unfold planar_Cross.c
  simp [go_sem, P2.enc, P2.cs]
  refine ACall_is (hv a) ?_
  cases ha : a.valid
  · simp [go_sem, planar_Cross.r, cross2, ha]
  simp [go_sem]
  refine ACall_is (hv b) ?_
  cases hb : b.valid
  · simp [go_sem, planar_Cross.r, cross2, hb]
  simp [go_sem]
  refine ACall_is (hv c) ?_
  cases hc : c.valid
  · simp [go_sem, planar_Cross.r, cross2, hc]
  have h1 := P2.valid_iff.1 ha
  have h2 := P2.valid_iff.1 hb
  have h3 := P2.valid_iff.1 hc
  have m1 := mul_bd (a := b.x - a.x) (b := c.y - a.y) (k := 33554432) (m := 33554432) (by omega) (by omega)
  have m2 := mul_bd (a := b.y - a.y) (b := c.x - a.x) (k := 33554432) (m := 33554432) (by omega) (by omega)
  simp (disch := omega) [go_sem, planar_Cross.r, cross2, ha, hb, hc, wrap64_small, cross0]
theorem ref05_Cross_ok {f fv : FuncId} (hf : FnOk P f (ref05_Cross.c fv) ref05_Cross.r ref05_Cross.n) (hv : PValidC P fv) : Cross2C P f := planar_Cross_ok hm hf hv

theorem planar_Turn_ok {f fc : FuncId} (hf : FnOk P f (planar_Turn.c fc) planar_Turn.r planar_Turn.n) (hc : Cross2C P fc) : Turn2C P f := by
  intro a b c
  refine PureC.is (pure_of hm hf (Nat.le_of_ble_eq_true rfl) ?_) rfl
  unfold planar_Turn.c
  simp [go_sem, P2.enc, P2.cs]
  refine ACall_is (hc a b c) ?_
  unfold turn2
  by_cases h1 : 0 < cross2 a b c
  · simp [go_sem, planar_Turn.r, h1]
  · by_cases h2 : cross2 a b c < 0 <;> simp [go_sem, planar_Turn.r, h1, h2]
theorem ref05_Turn_ok {f fc : FuncId} (hf : FnOk P f (ref05_Turn.c fc) ref05_Turn.r ref05_Turn.n) (hc : Cross2C P fc) : Turn2C P f := by
  intro a b c
  refine PureC.is (pure_of hm hf (Nat.le_of_ble_eq_true rfl) ?_) rfl
  unfold ref05_Turn.c
  simp [go_sem, P2.enc, P2.cs]
  refine ACall_is (hc a b c) ?_
  unfold turn2
  by_cases h1 : 0 < cross2 a b c
  · simp [go_sem, ref05_Turn.r, h1]
  · by_cases h2 : cross2 a b c < 0 <;> simp [go_sem, ref05_Turn.r, h1, h2]
end
end Go.Abs

