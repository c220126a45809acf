/- What the functions that cut meshes do to values. -/
import Derived.Test.YtkefjgfcbcpcbaaGoSecD
set_option linter.unusedVariables false
set_option linter.unusedSimpArgs false
namespace Go.Abs

instance : Inhabited V3 := ⟨⟨0, 0, 0⟩⟩
def Mesh.v (m : Mesh) (i : Int) : V3 := m.verts[i.toNat]?.getD ⟨0, 0, 0⟩
theorem Mesh.v_get {m : Mesh} {i : Int} (h1 : i < m.verts.length) (h : i.toNat < m.verts.length) : m.verts[i.toNat] = m.v i := by simp [Mesh.v, h]

def zV3 : V := .a [.i .i64 0, .i .i64 0, .i .i64 0]
def Mesh.corners (m : Mesh) (i : Int) : V :=
  if 0 ≤ i ∧ i < m.tris.length ∧ m.check = 0 then match m.tris[i.toNat]? with
    | some t => .t [(m.v t.a).enc, (m.v t.b).enc, (m.v t.c).enc, .b true]
    | none => .any
  else .t [zV3, zV3, zV3, .b false]

def CornersC (P : Program) (f : FuncId) : Prop := ∀ (m : Mesh) (i : Int), CallIs P f [m.enc, .i .i64 i] (m.corners i)

/-- The state of a loop that appends: the slice is in t, the objects `pre` stand before. -/
def apS (t : Nat) (e : List (Nat × V)) (pre : List O) (d sz : Nat) (els : List (List V)) : St :=
  if els = [] then ⟨(t, .nil) :: e, pre⟩ else ⟨(t, .own (pre.length + d) els.length 0 els.length) :: e, pre ++ List.replicate d .dead ++ [.arr els.length sz els]⟩

section
variable {P : Program} (hm : P.follows .mixedOrders = true)
include hm

set_option maxRecDepth 4000 in
set_option maxHeartbeats 1000000 in
theorem mesh_Corners_ok {f fc : FuncId} (hf : FnOk P f (mesh_Corners.c fc) mesh_Corners.r mesh_Corners.n) (hc : CheckC P fc) : CornersC P f := by
  intro m i
  refine PureC.is (pure_of hm hf (Nat.le_of_ble_eq_true rfl) ?_) rfl
  unfold mesh_Corners.c
  by_cases h : 0 ≤ i ∧ i < m.tris.length
  · obtain ⟨h0, h1⟩ := h
    have hlt : i.toNat < m.tris.length := by omega
    simp [go_sem, Mesh.enc, Mesh.cs, vsV, tsV, show ¬ i < 0 by omega, show ¬ (m.tris.length : Int) ≤ i by omega]
    refine ACall_is (hc m) ?_
    by_cases hz : m.check = 0
    · obtain ⟨z1, z2, z3, z4⟩ := Mesh.check_zero.1 hz
      obtain ⟨t, hp⟩ : ∃ t, m.tris[i.toNat]? = some t := ⟨_, List.getElem?_eq_getElem hlt⟩
      obtain ⟨hlt', hp'⟩ := List.getElem?_eq_some_iff.1 hp
      obtain ⟨t1, t2, t3, t4, t5, t6⟩ := T3.ok_iff.1 (tsOk_get z4 hp)
      have ga := Mesh.v_get t2 (by omega)
      have gb := Mesh.v_get t4 (by omega)
      have gc := Mesh.v_get t6 (by omega)
      have hr : m.corners i = .t [(m.v t.a).enc, (m.v t.b).enc, (m.v t.c).enc, .b true] := by
        simp only [Mesh.corners, h0, h1, hz, and_self, if_true, hp]
      rw [hr]
      simp [go_sem, hz, h0, h1, hlt, hp', tcs, vcs, t1, t2, t3, t4, t5, t6, show t.a.toNat < m.verts.length by omega, show t.b.toNat < m.verts.length by omega, show t.c.toNat < m.verts.length by omega, ga, gb, gc, mesh_Corners.r, V3.enc]
    · simp [go_sem, hz, mesh_Corners.r, Mesh.corners, zV3]
  · have : i < 0 ∨ (m.tris.length : Int) ≤ i := by omega
    have hr : m.corners i = .t [zV3, zV3, zV3, .b false] := by
      unfold Mesh.corners; rw [if_neg (by omega)]
    rw [hr]
    by_cases h0 : i < 0
    · simp [go_sem, Mesh.enc, Mesh.cs, vsV, tsV, h0, mesh_Corners.r, zV3]
    · simp [go_sem, Mesh.enc, Mesh.cs, vsV, tsV, h0, show (m.tris.length : Int) ≤ i by omega, mesh_Corners.r, zV3]
end
end Go.Abs

