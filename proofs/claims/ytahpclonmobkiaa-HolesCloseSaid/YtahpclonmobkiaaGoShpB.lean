/- What the functions on shapes do to values: the reference's sums and boxes, sameness. -/
import Derived.Test.YtahpclonmobkiaaGoShpA
set_option linter.unusedVariables false
set_option linter.unusedSimpArgs false
namespace Go.Abs

def AddC (P : Program) (f : FuncId) : Prop := ∀ a b : Int, inI a = true → inI b = true → CallIs P f [.i .i64 a, .i .i64 b] (.t (if inI (a + b) = true then [.i .i64 (a + b), .i .i64 0] else [.i .i64 0, .i .i64 3]))
def add0 (a b : Int) : Int := if inI (a + b) = true then a + b else 0
def V3.inR (v : V3) : Bool := inI v.x && inI v.y && inI v.z
def V3.add0 (a b : V3) : V3 := ⟨Go.Abs.add0 a.x b.x, Go.Abs.add0 a.y b.y, Go.Abs.add0 a.z b.z⟩
/-- The reference's sums. -/
def sumsOk (a b : V3) : Bool := inI (a.x + b.x) && inI (a.y + b.y) && inI (a.z + b.z) && (a.add0 b).valid
def SumsC (P : Program) (f : FuncId) : Prop := ∀ a b : V3, a.inR = true → b.inR = true → CallIs P f [a.enc, b.enc] (.t [(a.add0 b).enc, .b (sumsOk a b)])

theorem valid_inR {v : V3} (h : v.valid = true) : v.inR = true := by
  have := V3.valid_iff.1 h
  simp [V3.inR, inI]; omega
theorem sumsOk_iff {a b : V3} (ha : a.valid = true) : sumsOk a b = (a.add b).valid := by
  have := V3.valid_iff.1 ha
  rw [Bool.eq_iff_iff, V3.valid_iff]
  simp only [sumsOk, Bool.and_eq_true, V3.valid_iff, inI_iff, V3.add0, add0, V3.add]
  constructor
  · rintro ⟨⟨⟨h1, h2⟩, h3⟩, h4⟩
    rw [if_pos h1, if_pos h2, if_pos h3] at h4
    exact h4
  · intro h
    have h1 : -9223372036854775808 ≤ a.x + b.x ∧ a.x + b.x ≤ 9223372036854775807 := by omega
    have h2 : -9223372036854775808 ≤ a.y + b.y ∧ a.y + b.y ≤ 9223372036854775807 := by omega
    have h3 : -9223372036854775808 ≤ a.z + b.z ∧ a.z + b.z ≤ 9223372036854775807 := by omega
    rw [if_pos h1, if_pos h2, if_pos h3]
    exact ⟨⟨⟨h1, h2⟩, h3⟩, h⟩
theorem sumsOk_add {a b : V3} (h : sumsOk a b = true) : a.add0 b = a.add b := by
  simp only [sumsOk, Bool.and_eq_true] at h
  simp only [V3.add0, add0, V3.add, h.1.1.1, h.1.1.2, h.1.2, if_true]

theorem wrap64_over {n : Int} (h1 : 9223372036854775808 ≤ n) (h2 : n < 27670116110564327424) : IntKind.i64.wrap n = n - 18446744073709551616 := by
  simp only [IntKind.wrap, IntKind.bits, IntKind.signed]
  simp
  omega
theorem wrap64_under {n : Int} (h1 : -27670116110564327424 ≤ n) (h2 : n < -9223372036854775808) : IntKind.i64.wrap n = n + 18446744073709551616 := by
  simp only [IntKind.wrap, IntKind.bits, IntKind.signed]
  simp
  omega

def SameMC (P : Program) (f : FuncId) : Prop := ∀ m : Mesh, m.verts.length ≤ 1000000 → m.tris.length ≤ 1000000 → CallIs P f [m.enc, m.enc] (.b true)

def boxTris : List T3 := [⟨0, 2, 3⟩, ⟨0, 3, 1⟩, ⟨4, 5, 7⟩, ⟨4, 7, 6⟩, ⟨0, 1, 5⟩, ⟨0, 5, 4⟩, ⟨2, 6, 7⟩, ⟨2, 7, 3⟩, ⟨0, 4, 6⟩, ⟨0, 6, 2⟩, ⟨1, 3, 7⟩, ⟨1, 7, 5⟩]
def boxV (p s : V3) : V :=
  if s.x < 1 ∨ s.y < 1 ∨ s.z < 1 then mesV noMesh 1
  else if p.valid = true ∧ (p.add s).valid = true then mesV ⟨boxVerts p s, boxTris⟩ 0
  else mesV noMesh 8
def BoxC (P : Program) (f : FuncId) : Prop := ∀ p s : V3, p.inR = true → s.inR = true → CallIs P f [p.enc, s.enc] (boxV p s)

section
variable {P : Program} (hm : P.follows .mixedOrders = true)
include hm

theorem ref01_Add_ok {f : FuncId} (hf : FnOk P f ref01_Add.c ref01_Add.r ref01_Add.n) : AddC P f := by
  intro a b ha hb
  have h1 := inI_iff.1 ha
  have h2 := inI_iff.1 hb
  refine PureC.is (pure_of hm hf (Nat.le_of_ble_eq_true rfl) ?_) rfl
  unfold ref01_Add.c
  by_cases hs : inI (a + b) = true
  · have h3 := inI_iff.1 hs
    have hw : IntKind.i64.wrap (a + b) = a + b := wrap64_small (by omega) (by omega)
    by_cases hb0 : 0 < b
    · simp [go_sem, hw, hs, ref01_Add.r, hb0, show ¬ a + b < a by omega, show ¬ b < 0 by omega]
    · by_cases hb1 : b < 0
      · simp [go_sem, hw, hs, ref01_Add.r, hb0, hb1, show ¬ a < a + b by omega]
      · simp [go_sem, hw, hs, ref01_Add.r, hb0, hb1]
  · have h3 : ¬ (-9223372036854775808 ≤ a + b ∧ a + b ≤ 9223372036854775807) := fun h => hs (inI_iff.2 h)
    by_cases hb0 : 0 < b
    · have hw : IntKind.i64.wrap (a + b) = a + b - 18446744073709551616 := wrap64_over (by omega) (by omega)
      simp [go_sem, hw, hs, ref01_Add.r, hb0, show a + b - 18446744073709551616 < a by omega]
    · have hb1 : b < 0 := by omega
      have hw : IntKind.i64.wrap (a + b) = a + b + 18446744073709551616 := wrap64_under (by omega) (by omega)
      simp [go_sem, hw, hs, ref01_Add.r, hb0, hb1, show a < a + b + 18446744073709551616 by omega]

set_option maxHeartbeats 4000000 in
theorem ref07_Same_ok {f : FuncId} (hf : FnOk P f ref07_Same.c ref07_Same.r ref07_Same.n) : SameMC P f := by
  intro m hl1 hl2
  refine PureC.is (pure_of hm hf (Nat.le_of_ble_eq_true rfl) ?_) rfl
  unfold ref07_Same.c
  simp [go_sem, Mesh.enc, Mesh.cs, vsV, tsV]
  refine AS_loop (α := Nat) (fun k => k ≤ m.verts.length)
    (fun k => ⟨[(2, .p 0 1 0 0), (3, .p 1 1 0 0), (25, .i .i64 m.verts.length), (26, .i .i64 k)], [.arr 1 2 [m.cs], .arr 1 2 [m.cs]]⟩)
    (fun k => m.verts.length - k) 0 (Nat.zero_le _) ?_ ?_
  · simp [go_sem, Mesh.cs, vsV, tsV]
  · intro k hk
    cases hp : m.verts[k]? with
    | none =>
      have : ¬ k < m.verts.length := by simpa using hp
      obtain rfl : k = m.verts.length := by omega
      simp [go_sem, vsV, tsV, Mesh.cs]
      refine AS_loop (α := Nat) (fun k => k ≤ m.tris.length)
        (fun k => ⟨[(2, .p 0 1 0 0), (3, .p 1 1 0 0), (43, .i .i64 m.tris.length), (44, .i .i64 k)], [.arr 1 2 [m.cs], .arr 1 2 [m.cs]]⟩)
        (fun k => m.tris.length - k) 0 (Nat.zero_le _) ?_ ?_
      · simp [go_sem, Mesh.cs, vsV, tsV]
      · intro k hk
        cases hp : m.tris[k]? with
        | none =>
          have : ¬ k < m.tris.length := by simpa using hp
          obtain rfl : k = m.tris.length := by omega
          simp [go_sem, vsV, tsV, Mesh.cs, ref07_Same.r]
        | some p =>
          obtain ⟨hlt, hp'⟩ := List.getElem?_eq_some_iff.1 hp
          simp [go_sem, vsV, tsV, Mesh.cs, hlt, hp', tcs]
          refine ⟨k + 1, by omega, by omega, ?_⟩
          simp (disch := omega) [go_sem, vsV, tsV, Mesh.cs, wrap64_small]
    | some p =>
      obtain ⟨hlt, hp'⟩ := List.getElem?_eq_some_iff.1 hp
      simp [go_sem, vsV, tsV, Mesh.cs, hlt, hp', vcs]
      refine ⟨k + 1, by omega, by omega, ?_⟩
      simp (disch := omega) [go_sem, vsV, tsV, Mesh.cs, wrap64_small]
end
end Go.Abs

