/- The statements on the cutting of meshes, by values. -/
import Derived.Test.YtkefjgfcbcpcbaaGoSecF
import Derived.Test.YtkefjgfcbcpcbaaGoRevC
import Derived.Test.YtkefjgfcbcpcbaaGoHeap
set_option linter.unusedVariables false
set_option linter.unusedSimpArgs false
namespace Go.Abs

def Mesh.small (m : Mesh) : Bool := decide (m.tris.length ≤ 40) && decide (m.verts.length ≤ 60)
def SmallC (P : Program) (f : FuncId) : Prop := ∀ m : Mesh, CallIs P f [m.enc] (.b m.small)
def segV (l : List Sg4) : V := .l 4 (l.map Sg4.cs)
def SegsC (P : Program) (f : FuncId) : Prop := ∀ l : List Sg4, l.length ≤ 4096 → CallIs P f [segV l, segV l] (.b true)

theorem secCut_len (m : Mesh) (z : Int) : (secCut m z).1.length ≤ 4096 := by
  unfold secCut
  split
  · rename_i h
    obtain ⟨z1, z2, z3, z4⟩ := Mesh.check_zero.1 h
    split
    · simp
    · have := segEls_len m z m.tris
      simp only [segEls, List.length_map] at this
      simp only
      omega
  · simp

theorem rnd_in {n d k : Int} (hd : 0 < d) (h1 : 0 ≤ n) (h2 : n ≤ k * d) : 0 ≤ rnd n d ∧ rnd n d ≤ k := by
  unfold rnd
  refine ⟨Int.ediv_nonneg (by omega) (by omega), ?_⟩
  have h4 : k * (2 * d) = 2 * (k * d) := by rw [Int.mul_left_comm]
  have h3 : (2 * n + d) / (2 * d) < k + 1 := Int.ediv_lt_of_lt_mul (by omega) (by rw [Int.add_mul]; omega)
  omega

theorem rnd_in' {n d k : Int} (hd : 0 < d) (h1 : n ≤ 0) (h2 : -(k * d) ≤ n) : -k ≤ rnd n d ∧ rnd n d ≤ 0 := by
  unfold rnd
  constructor
  · refine Int.le_ediv_of_mul_le (by omega) ?_
    have : -k * (2 * d) = -(2 * (k * d)) := by rw [Int.neg_mul, Int.mul_left_comm]
    omega
  · have h3 : (2 * n + d) / (2 * d) < 1 := Int.ediv_lt_of_lt_mul (by omega) (by omega)
    omega

theorem crs_in {c0 c1 z0 z1 z : Int} (h1 : z0 ≤ z) (h2 : z < z1) : min c0 c1 ≤ crs c0 c1 z0 z1 z ∧ crs c0 c1 z0 z1 z ≤ max c0 c1 := by
  unfold crs
  by_cases h : c0 ≤ c1
  · have h3 := rnd_in (n := (c1 - c0) * (2 * z + 1 - 2 * z0)) (d := 2 * (z1 - z0)) (k := c1 - c0) (by omega) (Int.mul_nonneg (by omega) (by omega)) (Int.mul_le_mul_of_nonneg_left (by omega) (by omega))
    omega
  · have h4 : (c1 - c0) * (2 * z + 1 - 2 * z0) = -((c0 - c1) * (2 * z + 1 - 2 * z0)) := by rw [← Int.neg_mul]; congr 1; omega
    have h5 : 0 ≤ (c0 - c1) * (2 * z + 1 - 2 * z0) := Int.mul_nonneg (by omega) (by omega)
    have h6 : (c0 - c1) * (2 * z + 1 - 2 * z0) ≤ (c0 - c1) * (2 * (z1 - z0)) := Int.mul_le_mul_of_nonneg_left (by omega) (by omega)
    have h3 := rnd_in' (n := (c1 - c0) * (2 * z + 1 - 2 * z0)) (d := 2 * (z1 - z0)) (k := c0 - c1) (by omega) (by omega) (by omega)
    omega

section
variable {P : Program} (hm : P.follows .mixedOrders = true)
include hm

theorem law15_Small_ok {f : FuncId} (hf : FnOk P f law15_Small.c law15_Small.r law15_Small.n) : SmallC P f := by
  intro m
  refine PureC.is (pure_of hm hf (Nat.le_of_ble_eq_true rfl) ?_) rfl
  unfold law15_Small.c
  simp +contextual -implicitDefEqProofs [go_sem, Mesh.enc, Mesh.cs, vsV, tsV, law15_Small.r, Mesh.small]
  congr 1 <;> (rw [decide_eq_decide]; omega)

theorem law15_segs_ok {f : FuncId} (hf : FnOk P f law15_segs.c law15_segs.r law15_segs.n) : SegsC P f := by
  intro l hl
  refine PureC.is (pure_of hm hf (Nat.le_of_ble_eq_true rfl) ?_) rfl
  unfold law15_segs.c
  simp [go_sem, segV]
  refine AS_loop (α := Nat) (fun k => k ≤ l.length) (fun k => ⟨[(0, segV l), (1, segV l), (5, .i .i64 k)], []⟩) (fun k => l.length - k) 0 (Nat.zero_le _) ?_ ?_
  · simp [go_sem, segV]
  · intro k hk
    cases hp : l[k]? with
    | none =>
      have : ¬ k < l.length := by simpa using hp
      obtain rfl : k = l.length := by omega
      simp [go_sem, segV, law15_segs.r]
    | some t =>
      obtain ⟨hlt, hp'⟩ := List.getElem?_eq_some_iff.1 hp
      simp [go_sem, segV, hlt, hp', Sg4.cs]
      simp (disch := omega) [go_sem, wrap64_small]
      refine ⟨k + 1, by omega, by omega, ?_⟩
      simp [go_sem, segV]

theorem SectionPoints_ok {f fp fr fa : FuncId} (hf : FnOk P f (law15_SectionPoints.c fp fr fa) law15_SectionPoints.r law15_SectionPoints.n) (hp : PointC P fp) (hr : PointC P fr) (ha : AwakeC P fa) (a b : V3) (z : Int) :
    PureC P f [a.enc, b.enc, .i .i64 z] (· = .b true) := by
  refine pure_of hm hf (Nat.le_of_ble_eq_true rfl) ?_
  unfold law15_SectionPoints.c
  simp [go_sem, V3.enc, vcs]
  refine ACall_is (hp a b z) ?_
  cases h : point a b z <;> simp [go_sem, ptR] <;> refine ACall_is (hr a b z) ?_ <;> rw [h] <;> simp [go_sem, ptR] <;> refine ACall_is ha ?_ <;> simp [go_sem, law15_SectionPoints.r]

theorem SectionCuts_ok {f fs fa fp fr fg : FuncId} (hf : FnOk P f (law15_SectionCuts.c fs fa fp fr fg) law15_SectionCuts.r law15_SectionCuts.n) (hs : SmallC P fs) (ha : AwakeC P fa) (hp : SecC P fp) (hr : SecC P fr) (hg : SegsC P fg) (m : Mesh) (z : Int) :
    PureC P f [m.enc, .i .i64 z] (· = .b true) := by
  refine pure_of hm hf (Nat.le_of_ble_eq_true rfl) ?_
  unfold law15_SectionCuts.c
  simp [go_sem, Mesh.enc, Mesh.cs, vsV, tsV]
  refine ACall_is (hs m) ?_
  cases h : m.small
  · simp [go_sem]
    refine ACall_is ha ?_
    simp [go_sem, law15_SectionCuts.r]
  · simp [go_sem]
    refine ACall_is (hp m z) ?_
    simp [go_sem, secL]
    refine ACall_is (hr m z) ?_
    simp [go_sem, secL]
    refine ACall_is (hg _ (secCut_len m z)) ?_
    simp [go_sem]
    refine ACall_is ha ?_
    simp [go_sem, law15_SectionCuts.r]

set_option maxRecDepth 8000 in
set_option maxHeartbeats 2000000 in
theorem SectionInside_ok {f fp fa : FuncId} (hf : FnOk P f (law15_SectionInside.c fp fa) law15_SectionInside.r law15_SectionInside.n) (hp : PointC P fp) (ha : AwakeC P fa) (a b : V3) (z : Int) :
    PureC P f [a.enc, b.enc, .i .i64 z] (· = .b true) := by
  refine pure_of hm hf (Nat.le_of_ble_eq_true rfl) ?_
  unfold law15_SectionInside.c
  simp [go_sem, V3.enc, vcs]
  refine ACall_is (hp a b z) ?_
  by_cases h : a.valid = true ∧ b.valid = true ∧ a.z ≤ z ∧ z < b.z
  · have hpt : point a b z = some (crs a.x b.x a.z b.z z, crs a.y b.y a.z b.z z) := by simp only [point, h, and_self, if_true]
    have hx := crs_in (c0 := a.x) (c1 := b.x) h.2.2.1 h.2.2.2
    have hy := crs_in (c0 := a.y) (c1 := b.y) h.2.2.1 h.2.2.2
    rw [hpt]
    simp [go_sem, ptR, h.2.2.1, h.2.2.2, min_if, max_if, hx.1, hx.2, hy.1, hy.2]
    refine ACall_is ha ?_
    simp [go_sem, law15_SectionInside.r]
  · have hpt : point a b z = none := by simp only [point, h, if_false]
    rw [hpt]
    simp [go_sem, ptR]
    refine ACall_is ha ?_
    simp [go_sem, law15_SectionInside.r]
end
end Go.Abs

