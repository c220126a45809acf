/- The statement about prisms and pyramids, by values. -/
import Derived.Test.YtoppidobgkgiiaaGoShpH
import Derived.Test.YtoppidobgkgiiaaGoShpL
set_option linter.unusedVariables false
set_option linter.unusedSimpArgs false
namespace Go.Abs

structure SolidIn where
  at' : V3
  size : V3
  apex : V3
  base : List P2
  z : Int
  h : Int
def SolidIn.cs (x : SolidIn) : List V := [.i .i64 x.at'.x, .i .i64 x.at'.y, .i .i64 x.at'.z, .i .i64 x.size.x, .i .i64 x.size.y, .i .i64 x.size.z, .i .i64 x.apex.x, .i .i64 x.apex.y, .i .i64 x.apex.z, psV x.base, .i .i64 x.z, .i .i64 x.h]
def SolidIn.enc (x : SolidIn) : V := .a x.cs
def schSo : List Sch := [.i .i64, .i .i64, .i .i64, .i .i64, .i .i64, .i .i64, .i .i64, .i .i64, .i .i64, .sl [.i .i64, .i .i64], .i .i64, .i .i64]

theorem p2_of {e : List V} (h : okL [.i .i64, .i .i64] e) : ∃ v : P2, e = v.cs := by
  simp only [okL, Sch.ok] at h
  obtain ⟨v1, r1, rfl, ⟨x, rfl, _⟩, v2, r2, rfl, ⟨y, rfl, _⟩, rfl⟩ := h
  exact ⟨⟨x, y⟩, rfl⟩

theorem par_so {ps : List (Bool × List Sch)} {us : List V} (h : okPars ((true, schSo) :: ps) us) : ∃ (x : SolidIn) (r : List V), us = x.enc :: r ∧ (x.base.length ≤ 9223372036854775807 ∧ inI x.z = true ∧ inI x.h = true ∧ x.at'.inR = true ∧ x.size.inR = true ∧ x.apex.inR = true) ∧ okPars ps r := by
  simp only [okPars, okPar] at h
  obtain ⟨v, r, rfl, ⟨cs, rfl, hc⟩, hr⟩ := h
  simp only [schSo, okL, Sch.ok] at hc
  obtain ⟨v1, r1, rfl, ⟨a1, rfl, b1⟩, v2, r2, rfl, ⟨a2, rfl, b2⟩, v3, r3, rfl, ⟨a3, rfl, b3⟩, v4, r4, rfl, ⟨a4, rfl, b4⟩, v5, r5, rfl, ⟨a5, rfl, b5⟩, v6, r6, rfl, ⟨a6, rfl, b6⟩, v7, r7, rfl, ⟨a7, rfl, b7⟩, v8, r8, rfl, ⟨a8, rfl, b8⟩, v9, r9, rfl, ⟨a9, rfl, b9⟩, v10, r10, rfl, ⟨els, rfl, hl, he⟩, v11, r11, rfl, ⟨a11, rfl, b11⟩, v12, r12, rfl, ⟨a12, rfl, b12⟩, rfl⟩ := hc
  obtain ⟨ps', rfl⟩ := list_of (fun e => p2_of) els he
  refine ⟨⟨⟨a1, a2, a3⟩, ⟨a4, a5, a6⟩, ⟨a7, a8, a9⟩, ps', a11, a12⟩, r, rfl, ⟨by simpa using hl, inI_iff.2 b11, inI_iff.2 b12, ?_, ?_, ?_⟩, hr⟩ <;> simp only [V3.inR, Bool.and_eq_true, inI_iff]
  · exact ⟨⟨b1, b2⟩, b3⟩
  · exact ⟨⟨b4, b5⟩, b6⟩
  · exact ⟨⟨b7, b8⟩, b9⟩

def CutC (P : Program) (f : FuncId) : Prop := ∀ l : List P2, CallIs P f [psV l] (psV (l.take 100))

theorem solidV_ex (l : List P2) (m : Mesh) (h1 : m.verts.length ≤ 1000000) (h2 : m.tris.length ≤ 1000000) : ∃ m' e, solidV l m = mesV m' e ∧ m'.verts.length ≤ 1000000 ∧ m'.tris.length ≤ 1000000 := by
  unfold solidV
  split
  · exact ⟨_, _, rfl, by simp [noMesh], by simp [noMesh]⟩
  · split
    · exact ⟨_, _, rfl, by simp [noMesh], by simp [noMesh]⟩
    · exact ⟨_, _, rfl, h1, h2⟩
theorem prismV_ex (l : List P2) (z h : Int) (hl : l.length ≤ 1000) : ∃ m e, prismV l z h = mesV m e ∧ m.verts.length ≤ 1000000 ∧ m.tris.length ≤ 1000000 := by
  unfold prismV
  split
  · exact ⟨_, _, rfl, by simp [noMesh], by simp [noMesh]⟩
  · exact solidV_ex _ _ (by simp [prismMesh, levelVs_len]; omega) (by simp [prismMesh, bottomTs_len, topTs_len, sideTs_len]; omega)
theorem pyrV_ex (l : List P2) (z : Int) (a : V3) (hl : l.length ≤ 1000) : ∃ m e, pyrV l z a = mesV m e ∧ m.verts.length ≤ 1000000 ∧ m.tris.length ≤ 1000000 := by
  unfold pyrV
  split
  · exact ⟨_, _, rfl, by simp [noMesh], by simp [noMesh]⟩
  · exact solidV_ex _ _ (by simp [pyrMesh, levelVs_len]; omega) (by simp [pyrMesh, bottomTs_len, flankTs_len]; omega)

section
variable {P : Program} (hm : P.follows .mixedOrders = true)
include hm

theorem law13_cut_ok {f : FuncId} (hf : FnOk P f law13_cut.c law13_cut.r law13_cut.n) : CutC P f := by
  intro l
  refine PureC.is (pure_of hm hf (Nat.le_of_ble_eq_true rfl) ?_) rfl
  unfold law13_cut.c
  by_cases h : (100 : Int) < l.length
  · have h' : 100 ≤ l.length := by omega
    simp [go_sem, psV, h, h', law13_cut.r]
  · simp [go_sem, psV, h, law13_cut.r]
    exact (List.take_of_length_le (by simp; omega)).symm

set_option maxHeartbeats 8000000 in
theorem ShapesBases_ok {f fcut fp frp fy fry fs fa : FuncId} (hf : FnOk P f (law13_ShapesBases.c fcut fp frp fy fry fs fa) law13_ShapesBases.r law13_ShapesBases.n)
    (hcut : CutC P fcut) (hp : PrismC P fp) (hrp : PrismC P frp) (hy : PyrC P fy) (hry : PyrC P fry) (hs : SameMC P fs) (ha : AwakeC P fa) (x : SolidIn) (h1 : inI x.z = true) (h2 : inI x.h = true) :
    PureC P f [x.enc] (· = .b true) := by
  have hl : (x.base.take 100).length ≤ 1000 := by simp; omega
  obtain ⟨m1, e1, hme1, hv1, ht1⟩ := prismV_ex (x.base.take 100) x.z x.h hl
  obtain ⟨m2, e2, hme2, hv2, ht2⟩ := pyrV_ex (x.base.take 100) x.z x.apex hl
  refine pure_of hm hf (Nat.le_of_ble_eq_true rfl) ?_
  unfold law13_ShapesBases.c
  simp [go_sem, SolidIn.enc, SolidIn.cs]
  refine ACall_is (hcut x.base) ?_
  simp [go_sem]
  refine ACall_is (hp _ x.z x.h hl h1 h2) ?_
  rw [hme1]
  simp [go_sem, mesV, Mesh.enc, Mesh.cs]
  refine ACall_is (hrp _ x.z x.h hl h1 h2) ?_
  rw [hme1]
  simp [go_sem, mesV, Mesh.enc, Mesh.cs]
  refine ACall_is (hy _ x.z x.apex hl) ?_
  rw [hme2]
  simp [go_sem, mesV, Mesh.enc, Mesh.cs]
  refine ACall_is (hry _ x.z x.apex hl) ?_
  rw [hme2]
  simp [go_sem, mesV, Mesh.enc, Mesh.cs]
  refine ACall_is (hs m1 hv1 ht1) ?_
  simp [go_sem]
  refine ACall_is (hs m2 hv2 ht2) ?_
  simp [go_sem]
  refine ACall_is ha ?_
  simp [go_sem, law13_ShapesBases.r]
end
end Go.Abs
