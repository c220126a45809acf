/- What the functions on shapes do to values: vectors, boxes. -/
import Derived.Test.YtlmjnmmppffhaaaGoClone
import Derived.Test.YtlmjnmmppffhaaaGoSch
set_option linter.unusedVariables false
set_option linter.unusedSimpArgs false
namespace Go.Abs

structure P2 where
  x : Int
  y : Int
deriving DecidableEq
def P2.cs (p : P2) : List V := [.i .i64 p.x, .i .i64 p.y]
def P2.enc (p : P2) : V := .a p.cs
def psV (l : List P2) : V := .l 2 (l.map P2.cs)
theorem pcs (p : P2) : p.cs = [.i .i64 p.x, .i .i64 p.y] := _root_.id rfl

def inI (n : Int) : Bool := decide (-9223372036854775808 ≤ n) && decide (n ≤ 9223372036854775807)
theorem inI_iff {n : Int} : inI n = true ↔ (-9223372036854775808 ≤ n ∧ n ≤ 9223372036854775807) := by simp [inI]

/-- The result of a function that makes a mesh. -/
def mesV (m : Mesh) (e : Int) : V := .t [m.enc, .i .i64 e]
def noMesh : Mesh := ⟨[], []⟩
theorem mesV_le {u v : V} {vs : List V3} {ts : List T3} {e : Int} (h1 : Le0 u (vsV vs)) (h2 : Le0 v (tsV ts)) : Le (.t [.a [u, v], .i .i64 e]) (mesV ⟨vs, ts⟩ e) :=
  .inr ⟨_, _, rfl, rfl, .inr ⟨_, _, rfl, rfl, h1, h2, trivial⟩, Le1.refl _, trivial⟩
theorem noMesh_le (e : Int) : Le (.t [.a [.nil, .nil], .i .i64 e]) (mesV noMesh e) := mesV_le (Le0.nil 3) (Le0.nil 3)

def FitsVC (P : Program) (f : FuncId) : Prop := ∀ l : List V3, l.length ≤ 1000000 → CallIs P f [vsV l] (.b (vsOk l))
def NearC (P : Program) (f : FuncId) : Prop := ∀ v : V3, CallIs P f [v.enc] (.b (v.within 131072))
def V3.plus (a b : V3) : V3 := ⟨IntKind.i64.wrap (a.x + b.x), IntKind.i64.wrap (a.y + b.y), IntKind.i64.wrap (a.z + b.z)⟩
def PlusC (P : Program) (f : FuncId) : Prop := ∀ a b : V3, CallIs P f [a.enc, b.enc] (a.plus b).enc
def V3.add (a b : V3) : V3 := ⟨a.x + b.x, a.y + b.y, a.z + b.z⟩

def boxVerts (p s : V3) : List V3 :=
  [⟨p.x, p.y, p.z⟩, ⟨p.x + s.x, p.y, p.z⟩, ⟨p.x, p.y + s.y, p.z⟩, ⟨p.x + s.x, p.y + s.y, p.z⟩, ⟨p.x, p.y, p.z + s.z⟩, ⟨p.x + s.x, p.y, p.z + s.z⟩, ⟨p.x, p.y + s.y, p.z + s.z⟩, ⟨p.x + s.x, p.y + s.y, p.z + s.z⟩]
def CornersBC (P : Program) (f : FuncId) : Prop := ∀ p s : V3, p.valid = true → s.within 131072 = true → CallIs P f [p.enc, s.enc] (.a ((boxVerts p s).flatMap V3.cs))
theorem within_iff {v : V3} {k : Int} : v.within k = true ↔ (-k ≤ v.x ∧ v.x ≤ k ∧ -k ≤ v.y ∧ v.y ≤ k ∧ -k ≤ v.z ∧ v.z ≤ k) := by
  simp [V3.within, and_assoc]
theorem plus_add {a b : V3} (h1 : a.valid = true) (h2 : b.within 131072 = true) : a.plus b = a.add b := by
  have := V3.valid_iff.1 h1
  have := within_iff.1 h2
  simp only [V3.plus, V3.add]
  rw [wrap64_small (by omega) (by omega), wrap64_small (by omega) (by omega), wrap64_small (by omega) (by omega)]

section
variable {P : Program} (hm : P.follows .mixedOrders = true)
include hm

theorem shapes_fits_ok {f fv : FuncId} (hf : FnOk P f (shapes_fits.c fv) shapes_fits.r shapes_fits.n) (hv : ValidC P fv) : FitsVC P f := by
  intro l hl
  refine PureC.is (pure_of hm hf (Nat.le_of_ble_eq_true rfl) ?_) rfl
  unfold shapes_fits.c
  simp [go_sem, vsV]
  refine AS_loop (α := Nat) (fun k => k ≤ l.length ∧ vsOk (l.take k) = true)
    (fun k => ⟨[(5, vsV l), (6, .i .i64 l.length), (7, .i .i64 k)], []⟩)
    (fun k => l.length - k) 0 ⟨Nat.zero_le _, rfl⟩ ?_ ?_
  · simp [go_sem, vsV]
  · rintro k ⟨hk, hok⟩
    cases hp : l[k]? with
    | none =>
      have : ¬ k < l.length := by simpa using hp
      obtain rfl : k = l.length := by omega
      rw [List.take_length] at hok
      simp [go_sem, vsV, shapes_fits.r, hok]
    | some p =>
      obtain ⟨hlt, hp'⟩ := List.getElem?_eq_some_iff.1 hp
      simp [go_sem, vsV, hlt, hp', vcs]
      refine ACall_is (hv p) ?_
      cases hvp : p.valid
      · simp [go_sem, shapes_fits.r, vsOk_false hp hvp]
      · simp (disch := omega) [go_sem, wrap64_small]
        refine ⟨k + 1, ⟨by omega, ?_⟩, by omega, ?_⟩
        · rw [vsOk_succ hp, hok, hvp]; rfl
        · simp (disch := omega) [go_sem, vsV, wrap64_small]
theorem ref13_valid_ok {f fv : FuncId} (hf : FnOk P f (ref13_valid.c fv) ref13_valid.r ref13_valid.n) (hv : ValidC P fv) : FitsVC P f := shapes_fits_ok hm hf hv

theorem shapes_near_ok {f : FuncId} (hf : FnOk P f shapes_near.c shapes_near.r shapes_near.n) : NearC P f := by
  intro v
  refine PureC.is (pure_of hm hf (Nat.le_of_ble_eq_true rfl) ?_) rfl
  unfold shapes_near.c
  have hw := @within_iff v 131072
  by_cases h1 : v.x ≤ 131072 ∧ v.y ≤ 131072 ∧ v.z ≤ 131072
  · have h2 : max (max v.x v.y) v.z ≤ 131072 := by omega
    simp +contextual -implicitDefEqProofs [go_sem, V3.enc, V3.cs, shapes_near.r, h1, h2]
    rw [Bool.eq_iff_iff, hw]; simp; omega
  · have h2 : ¬ max (max v.x v.y) v.z ≤ 131072 := by omega
    simp +contextual -implicitDefEqProofs [go_sem, V3.enc, V3.cs, shapes_near.r, h1, h2]
    rw [Bool.eq_iff_iff, hw]; simp; omega

theorem shapes_plus_ok {f : FuncId} (hf : FnOk P f shapes_plus.c shapes_plus.r shapes_plus.n) : PlusC P f := by
  intro a b
  refine PureC.is (pure_of hm hf (Nat.le_of_ble_eq_true rfl) ?_) rfl
  unfold shapes_plus.c
  simp [go_sem, V3.enc, V3.cs, shapes_plus.r, V3.plus]

set_option maxHeartbeats 4000000 in
theorem shapes_corners_ok {f fp : FuncId} (hf : FnOk P f (shapes_corners.c fp) shapes_corners.r shapes_corners.n) (hp : PlusC P fp) : CornersBC P f := by
  intro p s hv hs
  have h1 := V3.valid_iff.1 hv
  have h2 := within_iff.1 hs
  refine PureC.is (pure_of hm hf (Nat.le_of_ble_eq_true rfl) ?_) rfl
  unfold shapes_corners.c
  simp [go_sem, V3.enc, V3.cs]
  refine AS_loop (α := Nat) (fun k => k ≤ 8)
    (fun k => ⟨[(2, .p 0 1 0 0), (3, .p 1 1 0 0), (4, .p 2 1 0 0), (5, .p 3 1 0 0), (7, .i .i64 k)], [.arr 1 3 [p.cs], .arr 1 3 [s.cs], .arr 1 24 [List.replicate 24 (.i .i64 0)], .arr 1 24 [((boxVerts p s).take k).flatMap V3.cs ++ List.replicate (24 - 3 * k) (.i .i64 0)]]⟩)
    (fun k => 8 - k) 0 (by omega) ?_ ?_
  · simp [go_sem, vcs]
  · intro k hk
    by_cases h8 : k = 8
    · subst h8
      simp [go_sem, shapes_corners.r, boxVerts, V3.cs]
    · have : k = 0 ∨ k = 1 ∨ k = 2 ∨ k = 3 ∨ k = 4 ∨ k = 5 ∨ k = 6 ∨ k = 7 := by omega
      have w0 : IntKind.i64.wrap 0 = 0 := rfl
      have w1 : IntKind.i64.wrap 1 = 1 := rfl
      have wx : IntKind.i64.wrap s.x = s.x := wrap64_small (by omega) (by omega)
      have wy : IntKind.i64.wrap s.y = s.y := wrap64_small (by omega) (by omega)
      have wz : IntKind.i64.wrap s.z = s.z := wrap64_small (by omega) (by omega)
      rcases this with rfl | rfl | rfl | rfl | rfl | rfl | rfl | rfl
      · simp [go_sem, vcs, w0, w1, wx, wy, wz]
        refine ACall_is (hp p ⟨0, 0, 0⟩) ?_
        simp (disch := omega) [go_sem, wrap64_small, V3.plus, V3.enc, V3.cs, w0, w1, boxVerts]
        exact ⟨1, by simp [go_sem, V3.cs, or_imp, forall_and, V.cl, V.cl1, V.cl0]⟩
      · simp [go_sem, vcs, w0, w1, wx, wy, wz]
        refine ACall_is (hp p ⟨s.x, 0, 0⟩) ?_
        simp (disch := omega) [go_sem, wrap64_small, V3.plus, V3.enc, V3.cs, w0, w1, boxVerts]
        exact ⟨2, by simp [go_sem, V3.cs, or_imp, forall_and, V.cl, V.cl1, V.cl0]⟩
      · simp [go_sem, vcs, w0, w1, wx, wy, wz]
        refine ACall_is (hp p ⟨0, s.y, 0⟩) ?_
        simp (disch := omega) [go_sem, wrap64_small, V3.plus, V3.enc, V3.cs, w0, w1, boxVerts]
        exact ⟨3, by simp [go_sem, V3.cs, or_imp, forall_and, V.cl, V.cl1, V.cl0]⟩
      · simp [go_sem, vcs, w0, w1, wx, wy, wz]
        refine ACall_is (hp p ⟨s.x, s.y, 0⟩) ?_
        simp (disch := omega) [go_sem, wrap64_small, V3.plus, V3.enc, V3.cs, w0, w1, boxVerts]
        exact ⟨4, by simp [go_sem, V3.cs, or_imp, forall_and, V.cl, V.cl1, V.cl0]⟩
      · simp [go_sem, vcs, w0, w1, wx, wy, wz]
        refine ACall_is (hp p ⟨0, 0, s.z⟩) ?_
        simp (disch := omega) [go_sem, wrap64_small, V3.plus, V3.enc, V3.cs, w0, w1, boxVerts]
        exact ⟨5, by simp [go_sem, V3.cs, or_imp, forall_and, V.cl, V.cl1, V.cl0]⟩
      · simp [go_sem, vcs, w0, w1, wx, wy, wz]
        refine ACall_is (hp p ⟨s.x, 0, s.z⟩) ?_
        simp (disch := omega) [go_sem, wrap64_small, V3.plus, V3.enc, V3.cs, w0, w1, boxVerts]
        exact ⟨6, by simp [go_sem, V3.cs, or_imp, forall_and, V.cl, V.cl1, V.cl0]⟩
      · simp [go_sem, vcs, w0, w1, wx, wy, wz]
        refine ACall_is (hp p ⟨0, s.y, s.z⟩) ?_
        simp (disch := omega) [go_sem, wrap64_small, V3.plus, V3.enc, V3.cs, w0, w1, boxVerts]
        exact ⟨7, by simp [go_sem, V3.cs, or_imp, forall_and, V.cl, V.cl1, V.cl0]⟩
      · simp [go_sem, vcs, w0, w1, wx, wy, wz]
        refine ACall_is (hp p ⟨s.x, s.y, s.z⟩) ?_
        simp (disch := omega) [go_sem, wrap64_small, V3.plus, V3.enc, V3.cs, w0, w1, boxVerts]
        exact ⟨8, by simp [go_sem, V3.cs, or_imp, forall_and, V.cl, V.cl1, V.cl0]⟩
end
end Go.Abs

