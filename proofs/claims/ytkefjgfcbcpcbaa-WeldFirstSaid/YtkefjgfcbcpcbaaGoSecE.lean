/- Part of the abstract machine on which the proof stands: its values, code and their soundness against the model. -/
import Derived.Test.YtkefjgfcbcpcbaaGoSec
set_option linter.unusedVariables false
set_option linter.unusedSimpArgs false
namespace Go.Abs

theorem mulb {x y A B : Int} (h1 : -A ≤ x) (h2 : x ≤ A) (h3 : -B ≤ y) (h4 : y ≤ B) : -(A * B) ≤ x * y ∧ x * y ≤ A * B := by
  have hA : 0 ≤ A := by omega
  have hB : 0 ≤ B := by omega
  have h5 := Nat.mul_le_mul (show x.natAbs ≤ A.natAbs by omega) (show y.natAbs ≤ B.natAbs by omega)
  rw [← Int.natAbs_mul, ← Int.natAbs_mul] at h5
  have h6 : 0 ≤ A * B := Int.mul_nonneg hA hB
  omega

def crs (c0 c1 z0 z1 z : Int) : Int := c0 + rnd ((c1 - c0) * (2 * z + 1 - 2 * z0)) (2 * (z1 - z0))

def CrossC (P : Program) (f : FuncId) : Prop := ∀ c0 c1 z0 z1 z : Int, -65536 ≤ c0 → c0 ≤ 65536 → -65536 ≤ c1 → c1 ≤ 65536 → -65536 ≤ z0 → z1 ≤ 65536 → z0 ≤ z → z < z1 →
  CallIs P f [.i .i64 c0, .i .i64 c1, .i .i64 z0, .i .i64 z1, .i .i64 z] (.i .i64 (crs c0 c1 z0 z1 z))

/-- Where an edge crosses the plane. -/
def point (a b : V3) (z : Int) : Option (Int × Int) :=
  if a.valid = true ∧ b.valid = true ∧ a.z ≤ z ∧ z < b.z then some (crs a.x b.x a.z b.z z, crs a.y b.y a.z b.z z) else none

def ptR : Option (Int × Int) → V
  | none => .t [.a [.i .i64 0, .i .i64 0], .b false]
  | some p => .t [.a [.i .i64 p.1, .i .i64 p.2], .b true]

def PointC (P : Program) (f : FuncId) : Prop := ∀ (a b : V3) (z : Int), CallIs P f [a.enc, b.enc, .i .i64 z] (ptR (point a b z))

theorem crs_rnd {a b : Int} (h1 : -34359738368 ≤ a) (h2 : a ≤ 34359738368) (h3 : 0 < b) : -34359738369 ≤ rnd a b ∧ rnd a b ≤ 34359738369 := by
  unfold rnd
  have h4 := Int.mul_ediv_add_emod (2 * a + b) (2 * b)
  have h5 := Int.emod_nonneg (2 * a + b) (show 2 * b ≠ 0 by omega)
  have h6 := Int.emod_lt_of_pos (2 * a + b) (show 0 < 2 * b by omega)
  generalize (2 * a + b) / (2 * b) = q at h4 ⊢
  generalize (2 * a + b) % (2 * b) = r at *
  have h7 : 2 * b * q = 2 * (b * q) := Int.mul_assoc 2 b q
  constructor
  · refine Decidable.byContradiction fun hh => ?_
    have := Int.mul_le_mul_of_nonneg_left (show q ≤ -34359738370 by omega) (show 0 ≤ b by omega)
    omega
  · refine Decidable.byContradiction fun hh => ?_
    have := Int.mul_le_mul_of_nonneg_left (show 34359738370 ≤ q by omega) (show 0 ≤ b by omega)
    omega

theorem rounded_eq {a b : Int} (hb : 0 < b) : (2 * a + b).tdiv (2 * b) - (if (2 * a + b).tmod (2 * b) < 0 then 1 else 0) = rnd a b := by
  unfold rnd
  have h1 := Int.mul_tdiv_add_tmod (2 * a + b) (2 * b)
  have h2 := Int.tmod_lt_of_pos (2 * a + b) (show 0 < 2 * b by omega)
  have h3 : -(2 * b) < (2 * a + b).tmod (2 * b) := by
    have h8 : ((2 * a + b).tmod (2 * b)).natAbs = (2 * a + b).natAbs % (2 * b).natAbs := Int.natAbs_tmod _ _
    have := Nat.mod_lt (2 * a + b).natAbs (show 0 < (2 * b).natAbs by omega)
    omega
  generalize (2 * a + b).tdiv (2 * b) = q at *
  generalize (2 * a + b).tmod (2 * b) = r at *
  split
  · refine ((Int.ediv_emod_unique (show 0 < 2 * b by omega) (q := q - 1) (r := 2 * b + r)).2 ⟨?_, by omega, by omega⟩).1.symm
    rw [Int.mul_sub]
    omega
  · rw [Int.sub_zero]
    refine ((Int.ediv_emod_unique (show 0 < 2 * b by omega) (q := q) (r := r)).2 ⟨?_, by omega, by omega⟩).1.symm
    omega

section
variable {P : Program} (hm : P.follows .mixedOrders = true)
include hm

theorem section_cross_ok {f fr : FuncId} (hf : FnOk P f (section_cross.c fr) section_cross.r section_cross.n) (hr : RoundC P fr) : CrossC P f := by
  intro c0 c1 z0 z1 z h1 h2 h3 h4 h5 h6 h7 h8
  refine PureC.is (pure_of hm hf (Nat.le_of_ble_eq_true rfl) ?_) rfl
  unfold section_cross.c
  have hp := mulb (x := c1 - c0) (y := 2 * z + 1 - 2 * z0) (A := 131072) (B := 262144) (by omega) (by omega) (by omega) (by omega)
  have hb := crs_rnd (a := (c1 - c0) * (2 * z + 1 - 2 * z0)) (b := 2 * (z1 - z0)) (by omega) (by omega) (by omega)
  simp (disch := omega) [go_sem, wrap64_small]
  refine ACall_is (hr _ _ (by omega) (by omega) (by omega) (by omega)) ?_
  simp (disch := omega) [go_sem, wrap64_small, section_cross.r, crs]

theorem section_Point_ok {f fv fc : FuncId} (hf : FnOk P f (section_Point.c fv fc) section_Point.r section_Point.n) (hv : ValidC P fv) (hc : CrossC P fc) : PointC P f := by
  intro a b z
  refine PureC.is (pure_of hm hf (Nat.le_of_ble_eq_true rfl) ?_) rfl
  unfold section_Point.c
  simp [go_sem, V3.enc, vcs]
  refine ACall_is (hv a) ?_
  simp +contextual -implicitDefEqProofs [go_sem]
  refine Gq_is' (r := .b b.valid) (fun hh => ?_) ?_
  · have hh' : a.valid = true := by simpa using hh
    simp [go_sem, hh']
    exact hv b
  by_cases h : a.valid = true ∧ b.valid = true ∧ a.z ≤ z ∧ z < b.z
  · obtain ⟨h1, h2, h3, h4⟩ := h
    have g1 := V3.valid_iff.1 h1
    have g2 := V3.valid_iff.1 h2
    simp [go_sem, h1, h2, show ¬ z < a.z by omega, show ¬ b.z ≤ z by omega]
    refine DCall_is (hc _ _ _ _ _ (by omega) (by omega) (by omega) (by omega) (by omega) (by omega) (by omega) (by omega)) ?_
    simp [go_sem]
    refine DCall_is (hc _ _ _ _ _ (by omega) (by omega) (by omega) (by omega) (by omega) (by omega) (by omega) (by omega)) ?_
    simp [go_sem, section_Point.r, point, h1, h2, h3, h4, ptR]
  · have hn : point a b z = none := by simp only [point, h, if_false]
    rw [hn]
    cases h1 : a.valid
    · simp [go_sem, section_Point.r, ptR]
    · cases h2 : b.valid
      · simp [go_sem, section_Point.r, ptR]
      · simp +contextual -implicitDefEqProofs [go_sem, section_Point.r, ptR]
        exact fun h3 h4 => absurd ⟨h1, h2, h3, h4⟩ h

def RoundedC (P : Program) (f : FuncId) : Prop := ∀ a b : Int, -34359738368 ≤ a → a ≤ 34359738368 → 0 < b → b ≤ 1048576 → CallIs P f [.i .i64 a, .i .i64 b] (.i .i64 (rnd a b))

theorem ref15_rounded_ok {f : FuncId} (hf : FnOk P f ref15_rounded.c ref15_rounded.r ref15_rounded.n) : RoundedC P f := by
  intro a b h1 h2 h3 h4
  refine PureC.is (pure_of hm hf (Nat.le_of_ble_eq_true rfl) ?_) rfl
  unfold ref15_rounded.c
  have hq : -68719476736 ≤ (2 * a + b).tdiv (2 * b) - 1 ∧ (2 * a + b).tdiv (2 * b) ≤ 68720525312 := by
    have := Int.natAbs_tdiv_le_natAbs (2 * a + b) (2 * b)
    constructor
    · have h5 := crs_rnd h1 h2 h3
      have h6 := rounded_eq (a := a) h3
      split at h6 <;> omega
    · omega
  rw [← rounded_eq h3]
  have hz : ¬ 2 * b = 0 := by omega
  simp (disch := omega) [go_sem, wrap64_small, hz, ref15_rounded.r]
  intro h
  rw [if_neg (by omega), Int.sub_zero]

set_option maxRecDepth 4000 in
set_option maxHeartbeats 1000000 in
theorem ref15_Point_ok {f fv fc : FuncId} (hf : FnOk P f (ref15_Point.c fv fc) ref15_Point.r ref15_Point.n) (hv : ValidC P fv) (hc : RoundedC P fc) : PointC P f := by
  intro a b z
  refine PureC.is (pure_of hm hf (Nat.le_of_ble_eq_true rfl) ?_) rfl
  unfold ref15_Point.c
  simp [go_sem, V3.enc, vcs]
  refine ACall_is (hv a) ?_
  simp +contextual -implicitDefEqProofs [go_sem]
  refine Gq_is' (r := .b b.valid) (fun hh => ?_) ?_
  · have hh' : a.valid = true := by simpa using hh
    simp [go_sem, hh']
    exact hv b
  by_cases h : a.valid = true ∧ b.valid = true ∧ a.z ≤ z ∧ z < b.z
  · obtain ⟨h1, h2, h3, h4⟩ := h
    have g1 := V3.valid_iff.1 h1
    have g2 := V3.valid_iff.1 h2
    have hp := mulb (x := b.x - a.x) (y := 2 * z + 1 - 2 * a.z) (A := 131072) (B := 262144) (by omega) (by omega) (by omega) (by omega)
    have hb := crs_rnd (a := (b.x - a.x) * (2 * z + 1 - 2 * a.z)) (b := 2 * (b.z - a.z)) (by omega) (by omega) (by omega)
    have hp' := mulb (x := b.y - a.y) (y := 2 * z + 1 - 2 * a.z) (A := 131072) (B := 262144) (by omega) (by omega) (by omega) (by omega)
    have hb' := crs_rnd (a := (b.y - a.y) * (2 * z + 1 - 2 * a.z)) (b := 2 * (b.z - a.z)) (by omega) (by omega) (by omega)
    simp (disch := omega) [go_sem, h1, h2, show ¬ z < a.z by omega, show ¬ b.z ≤ z by omega, wrap64_small]
    refine DCall_is (hc _ _ (by omega) (by omega) (by omega) (by omega)) ?_
    simp (disch := omega) [go_sem, wrap64_small]
    refine DCall_is (hc _ _ (by omega) (by omega) (by omega) (by omega)) ?_
    simp (disch := omega) [go_sem, wrap64_small, ref15_Point.r, point, h1, h2, h3, h4, ptR, crs]
  · have hn : point a b z = none := by simp only [point, h, if_false]
    rw [hn]
    cases h1 : a.valid
    · simp [go_sem, ref15_Point.r, ptR]
    · cases h2 : b.valid
      · simp [go_sem, ref15_Point.r, ptR]
      · simp +contextual -implicitDefEqProofs [go_sem, ref15_Point.r, ptR]
        exact fun h3 h4 => absurd ⟨h1, h2, h3, h4⟩ h
end
end Go.Abs

set_option linter.unusedVariables false
set_option linter.unusedSimpArgs false
namespace Go.Abs

/-- A segment: A, B; and whether the triangle is crossed. -/
structure Sg4 where
  a : Int × Int
  b : Int × Int
  found : Bool

def Sg4.init : Sg4 := ⟨(0, 0), (0, 0), false⟩
def Sg4.step (z : Int) (s : Sg4) (u v : V3) : Sg4 :=
  let s1 : Sg4 := match point u v z with | some p => ⟨s.a, p, true⟩ | none => s
  match point v u z with | some p => ⟨p, s1.b, s1.found⟩ | none => s1
def Sg4.cs (s : Sg4) : List V := [.i .i64 s.a.1, .i .i64 s.a.2, .i .i64 s.b.1, .i .i64 s.b.2]

def cutAt (z : Int) (a b c : V3) : Nat → Sg4
  | 0 => .init
  | 1 => Sg4.init.step z a b
  | 2 => (Sg4.init.step z a b).step z b c
  | _ => ((Sg4.init.step z a b).step z b c).step z c a
def cut3 (z : Int) (a b c : V3) : Sg4 := cutAt z a b c 3

def CutC (P : Program) (f : FuncId) : Prop := ∀ (a b c : V3) (z : Int), CallIs P f [.a (a.cs ++ b.cs ++ c.cs), .i .i64 z] (.t [.a (cut3 z a b c).cs, .b (cut3 z a b c).found])

section
variable {P : Program} (hm : P.follows .mixedOrders = true)
include hm

set_option maxHeartbeats 4000000 in
theorem section_cut_ok {f fp : FuncId} (hf : FnOk P f (section_cut.c fp) section_cut.r section_cut.n) (hp : PointC P fp) : CutC P f := by
  intro a b c z
  refine PureC.is (pure_of hm hf (Nat.le_of_ble_eq_true rfl) ?_) rfl
  unfold section_cut.c
  simp [go_sem, vcs]
  refine AS_loop (α := Nat) (fun k => k ≤ 3)
    (fun k => ⟨[(1, .i .i64 z), (2, .p 0 1 0 0), (4, .p 1 1 0 0), (6, .p 2 1 0 0), (7, .b (cutAt z a b c k).found), (15, .a (a.cs ++ b.cs ++ c.cs)), (16, .i .i64 k)],
      [.arr 1 9 [a.cs ++ b.cs ++ c.cs], .arr 1 4 [[.i .i64 0, .i .i64 0, .i .i64 0, .i .i64 0]], .arr 1 4 [(cutAt z a b c k).cs]]⟩)
    (fun k => 3 - k) 0 (Nat.zero_le _) ?_ ?_
  · simp [go_sem, vcs, cutAt, Sg4.init, Sg4.cs]
  · intro k hk
    obtain rfl | rfl | rfl | rfl : k = 0 ∨ k = 1 ∨ k = 2 ∨ k = 3 := by omega
    · have hs : cutAt z a b c 1 = (cutAt z a b c 0).step z a b := _root_.id rfl
      generalize cutAt z a b c 0 = s at hs ⊢
      simp (disch := omega) [go_sem, vcs, Sg4.cs, wrap64_small]
      refine ACall_is (hp a b z) ?_
      cases h1 : point a b z <;> simp [go_sem, ptR] <;> refine ACall_is (hp b a z) ?_ <;> cases h2 : point b a z <;> simp [go_sem, ptR] <;>
        simp (disch := omega) [go_sem, wrap64_small] <;> refine ⟨1, by omega, by omega, ?_⟩ <;> rw [hs] <;> simp [go_sem, vcs, Sg4.cs, Sg4.step, h1, h2]
    · have hs : cutAt z a b c 2 = (cutAt z a b c 1).step z b c := _root_.id rfl
      generalize cutAt z a b c 1 = s at hs ⊢
      simp (disch := omega) [go_sem, vcs, Sg4.cs, wrap64_small]
      refine ACall_is (hp b c z) ?_
      cases h1 : point b c z <;> simp [go_sem, ptR] <;> refine ACall_is (hp c b z) ?_ <;> cases h2 : point c b z <;> simp [go_sem, ptR] <;>
        simp (disch := omega) [go_sem, wrap64_small] <;> refine ⟨2, by omega, by omega, ?_⟩ <;> rw [hs] <;> simp [go_sem, vcs, Sg4.cs, Sg4.step, h1, h2]
    · have hs : cutAt z a b c 3 = (cutAt z a b c 2).step z c a := _root_.id rfl
      generalize cutAt z a b c 2 = s at hs ⊢
      simp (disch := omega) [go_sem, vcs, Sg4.cs, wrap64_small]
      refine ACall_is (hp c a z) ?_
      cases h1 : point c a z <;> simp [go_sem, ptR] <;> refine ACall_is (hp a c z) ?_ <;> cases h2 : point a c z <;> simp [go_sem, ptR] <;>
        simp (disch := omega) [go_sem, wrap64_small] <;> refine ⟨3, by omega, by omega, ?_⟩ <;> rw [hs] <;> simp [go_sem, vcs, Sg4.cs, Sg4.step, h1, h2]
    · simp [go_sem, vcs, Sg4.cs, section_cut.r, cut3]
end
end Go.Abs

set_option linter.unusedVariables false
set_option linter.unusedSimpArgs false
namespace Go.Abs

instance : Inhabited V3 := ⟨⟨0, 0, 0⟩⟩
def Mesh.v (m : Mesh) (i : Int) : V3 := m.verts[i.toNat]?.getD ⟨0, 0, 0⟩
theorem Mesh.v_get {m : Mesh} {i : Int} (h1 : i < m.verts.length) (h : i.toNat < m.verts.length) : m.verts[i.toNat] = m.v i := by simp [Mesh.v, h]

def zV3 : V := .a [.i .i64 0, .i .i64 0, .i .i64 0]
def Mesh.corners (m : Mesh) (i : Int) : V :=
  if 0 ≤ i ∧ i < m.tris.length ∧ m.check = 0 then match m.tris[i.toNat]? with
    | some t => .t [(m.v t.a).enc, (m.v t.b).enc, (m.v t.c).enc, .b true]
    | none => .any
  else .t [zV3, zV3, zV3, .b false]

def CornersC (P : Program) (f : FuncId) : Prop := ∀ (m : Mesh) (i : Int), CallIs P f [m.enc, .i .i64 i] (m.corners i)

/-- The state of a loop that appends: the slice is in t, the objects `pre` stand before. -/
def apS (t : Nat) (e : List (Nat × V)) (pre : List O) (d sz : Nat) (els : List (List V)) : St :=
  if els = [] then ⟨(t, .nil) :: e, pre⟩ else ⟨(t, .own (pre.length + d) els.length 0 els.length) :: e, pre ++ List.replicate d .dead ++ [.arr els.length sz els]⟩

section
variable {P : Program} (hm : P.follows .mixedOrders = true)
include hm

set_option maxRecDepth 4000 in
set_option maxHeartbeats 1000000 in
theorem mesh_Corners_ok {f fc : FuncId} (hf : FnOk P f (mesh_Corners.c fc) mesh_Corners.r mesh_Corners.n) (hc : CheckC P fc) : CornersC P f := by
  intro m i
  refine PureC.is (pure_of hm hf (Nat.le_of_ble_eq_true rfl) ?_) rfl
  unfold mesh_Corners.c
  by_cases h : 0 ≤ i ∧ i < m.tris.length
  · obtain ⟨h0, h1⟩ := h
    have hlt : i.toNat < m.tris.length := by omega
    simp [go_sem, Mesh.enc, Mesh.cs, vsV, tsV, show ¬ i < 0 by omega, show ¬ (m.tris.length : Int) ≤ i by omega]
    refine ACall_is (hc m) ?_
    by_cases hz : m.check = 0
    · obtain ⟨z1, z2, z3, z4⟩ := Mesh.check_zero.1 hz
      obtain ⟨t, hp⟩ : ∃ t, m.tris[i.toNat]? = some t := ⟨_, List.getElem?_eq_getElem hlt⟩
      obtain ⟨hlt', hp'⟩ := List.getElem?_eq_some_iff.1 hp
      obtain ⟨t1, t2, t3, t4, t5, t6⟩ := T3.ok_iff.1 (tsOk_get z4 hp)
      have ga := Mesh.v_get t2 (by omega)
      have gb := Mesh.v_get t4 (by omega)
      have gc := Mesh.v_get t6 (by omega)
      have hr : m.corners i = .t [(m.v t.a).enc, (m.v t.b).enc, (m.v t.c).enc, .b true] := by
        simp only [Mesh.corners, h0, h1, hz, and_self, if_true, hp]
      rw [hr]
      simp [go_sem, hz, h0, h1, hlt, hp', tcs, vcs, t1, t2, t3, t4, t5, t6, show t.a.toNat < m.verts.length by omega, show t.b.toNat < m.verts.length by omega, show t.c.toNat < m.verts.length by omega, ga, gb, gc, mesh_Corners.r, V3.enc]
    · simp [go_sem, hz, mesh_Corners.r, Mesh.corners, zV3]
  · have : i < 0 ∨ (m.tris.length : Int) ≤ i := by omega
    have hr : m.corners i = .t [zV3, zV3, zV3, .b false] := by
      unfold Mesh.corners; rw [if_neg (by omega)]
    rw [hr]
    by_cases h0 : i < 0
    · simp [go_sem, Mesh.enc, Mesh.cs, vsV, tsV, h0, mesh_Corners.r, zV3]
    · simp [go_sem, Mesh.enc, Mesh.cs, vsV, tsV, h0, show (m.tris.length : Int) ≤ i by omega, mesh_Corners.r, zV3]
end
end Go.Abs

