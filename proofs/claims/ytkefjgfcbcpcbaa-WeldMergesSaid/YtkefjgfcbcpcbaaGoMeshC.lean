/- What functions on meshes do to values. -/
import Derived.Test.YtkefjgfcbcpcbaaGoVecC
set_option linter.unusedVariables false
set_option linter.unusedSimpArgs false
namespace Go.Abs

structure T3 where
  a : Int
  b : Int
  c : Int
deriving DecidableEq

def T3.cs (t : T3) : List V := [.i .i64 t.a, .i .i64 t.b, .i .i64 t.c]
def T3.enc (t : T3) : V := .a t.cs
def T3.ok (n : Nat) (t : T3) : Bool := decide (0 ≤ t.a) && decide (t.a < n) && decide (0 ≤ t.b) && decide (t.b < n) && decide (0 ≤ t.c) && decide (t.c < n)
theorem T3.ok_iff {n : Nat} {t : T3} : t.ok n = true ↔ (0 ≤ t.a ∧ t.a < n ∧ 0 ≤ t.b ∧ t.b < n ∧ 0 ≤ t.c ∧ t.c < n) := by simp [T3.ok, and_assoc]
theorem T3.ok_false {n : Nat} {t : T3} : t.ok n = false ↔ ¬ (0 ≤ t.a ∧ t.a < n ∧ 0 ≤ t.b ∧ t.b < n ∧ 0 ≤ t.c ∧ t.c < n) := by rw [← T3.ok_iff]; simp

structure Mesh where
  verts : List V3
  tris : List T3
deriving DecidableEq

def vsV (l : List V3) : V := .l 3 (l.map V3.cs)
def tsV (l : List T3) : V := .l 3 (l.map T3.cs)
def Mesh.cs (m : Mesh) : List V := [vsV m.verts, tsV m.tris]
def Mesh.enc (m : Mesh) : V := .a m.cs

def vsOk (l : List V3) : Bool := l.all V3.valid
def tsOk (n : Nat) (l : List T3) : Bool := l.all (T3.ok n)

def Mesh.check (m : Mesh) : Int :=
  if 4096 < m.verts.length ∨ 4096 < m.tris.length then 2
  else if vsOk m.verts = false then 8
  else if tsOk m.verts.length m.tris = false then 1 else 0

def CheckC (P : Program) (f : FuncId) : Prop := ∀ m : Mesh, CallIs P f [m.enc] (.i .i64 m.check)

theorem all_take_succ {α : Type} {p : α → Bool} {l : List α} {k : Nat} {x : α} (h : l[k]? = some x) : (l.take (k + 1)).all p = ((l.take k).all p && p x) := by
  simp [List.take_add_one, h]
theorem all_false_of {α : Type} {p : α → Bool} {l : List α} {k : Nat} {x : α} (h : l[k]? = some x) (hx : p x = false) : l.all p = false := by
  rw [Bool.eq_false_iff]
  intro h1
  have := List.all_eq_true.1 h1 x (List.mem_of_getElem? h)
  rw [hx] at this; cases this

theorem vsOk_succ {l : List V3} {k : Nat} {x : V3} (h : l[k]? = some x) : vsOk (l.take (k + 1)) = (vsOk (l.take k) && x.valid) := all_take_succ h
theorem tsOk_succ {n : Nat} {l : List T3} {k : Nat} {x : T3} (h : l[k]? = some x) : tsOk n (l.take (k + 1)) = (tsOk n (l.take k) && x.ok n) := all_take_succ h
theorem vsOk_false {l : List V3} {k : Nat} {x : V3} (h : l[k]? = some x) (hx : x.valid = false) : vsOk l = false := all_false_of h hx
theorem tsOk_false {n : Nat} {l : List T3} {k : Nat} {x : T3} (h : l[k]? = some x) (hx : x.ok n = false) : tsOk n l = false := all_false_of (p := T3.ok n) h hx
theorem vsOk_get {l : List V3} {k : Nat} {x : V3} (ho : vsOk l = true) (h : l[k]? = some x) : x.valid = true := List.all_eq_true.1 ho x (List.mem_of_getElem? h)
theorem tsOk_get {n : Nat} {l : List T3} {k : Nat} {x : T3} (ho : tsOk n l = true) (h : l[k]? = some x) : x.ok n = true := List.all_eq_true.1 ho x (List.mem_of_getElem? h)

theorem Mesh.check_zero {m : Mesh} : m.check = 0 ↔ m.verts.length ≤ 4096 ∧ m.tris.length ≤ 4096 ∧ vsOk m.verts = true ∧ tsOk m.verts.length m.tris = true := by
  unfold Mesh.check
  split
  · simp; omega
  · rename_i h
    simp only [not_or, Nat.not_lt] at h
    cases vsOk m.verts <;> cases tsOk m.verts.length m.tris <;> simp [h]

theorem vcs (v : V3) : v.cs = [.i .i64 v.x, .i .i64 v.y, .i .i64 v.z] := _root_.id rfl
theorem tcs (v : T3) : v.cs = [.i .i64 v.a, .i .i64 v.b, .i .i64 v.c] := _root_.id rfl
theorem venc (v : V3) : V.a [.i .i64 v.x, .i .i64 v.y, .i .i64 v.z] = v.enc := _root_.id rfl

section
variable {P : Program} (hm : P.follows .mixedOrders = true)
include hm

theorem mesh_Check_ok {f fv : FuncId} (hf : FnOk P f (mesh_Check.c fv) mesh_Check.r mesh_Check.n) (hv : ValidC P fv) : CheckC P f := by
  intro m
  refine PureC.is (pure_of hm hf (Nat.le_of_ble_eq_true rfl) ?_) rfl
  unfold mesh_Check.c
  by_cases h1 : 4096 < m.verts.length ∨ 4096 < m.tris.length
  · have h2 : m.check = 2 := by simp [Mesh.check, h1]
    simp +contextual -implicitDefEqProofs [go_sem, Mesh.enc, Mesh.cs, vsV, tsV, h2, mesh_Check.r]
    omega
  simp only [not_or, Nat.not_lt] at h1
  simp +contextual -implicitDefEqProofs [go_sem, Mesh.enc, Mesh.cs, vsV, tsV, h1, show ¬ (4096 : Int) < m.verts.length by omega, show ¬ (4096 : Int) < m.tris.length by omega]
  refine AS_loop (α := Nat) (fun k => k ≤ m.verts.length ∧ vsOk (m.verts.take k) = true)
    (fun k => ⟨[(1, .p 0 1 0 0), (3, .i .i64 m.verts.length), (20, vsV m.verts), (21, .i .i64 m.verts.length), (22, .i .i64 k)], [.arr 1 2 [m.cs]]⟩)
    (fun k => m.verts.length - k) 0 ⟨Nat.zero_le _, rfl⟩ ?_ ?_
  · simp [go_sem, Mesh.cs, vsV, tsV]
  · rintro k ⟨hk, hok⟩
    cases hp : m.verts[k]? with
    | none =>
      have : ¬ k < m.verts.length := by simpa using hp
      obtain rfl : k = m.verts.length := by omega
      rw [List.take_length] at hok
      simp [go_sem, vsV, tsV, Mesh.cs]
      refine AS_loop (α := Nat) (fun k => k ≤ m.tris.length ∧ tsOk m.verts.length (m.tris.take k) = true)
        (fun k => ⟨[(3, .i .i64 m.verts.length), (31, tsV m.tris), (32, .i .i64 m.tris.length), (33, .i .i64 k)], [.dead]⟩)
        (fun k => m.tris.length - k) 0 ⟨Nat.zero_le _, rfl⟩ ?_ ?_
      · simp [go_sem, tsV]
      · rintro k ⟨hk, hok2⟩
        cases hp : m.tris[k]? with
        | none =>
          have : ¬ k < m.tris.length := by simpa using hp
          obtain rfl : k = m.tris.length := by omega
          rw [List.take_length] at hok2
          simp [go_sem, tsV, mesh_Check.r]
          exact (Mesh.check_zero.2 ⟨h1.1, h1.2, hok, hok2⟩).symm
        | some t =>
          obtain ⟨hlt, hp'⟩ := List.getElem?_eq_some_iff.1 hp
          by_cases ht : t.ok m.verts.length = true
          · have ht' := T3.ok_iff.1 ht
            simp +contextual -implicitDefEqProofs [go_sem, tsV, tcs, hlt, hp', min_if, max_if]
            refine ⟨fun h => by omega, fun h1 h2 => ?_⟩
            simp (disch := omega) [go_sem, wrap64_small]
            refine ⟨k + 1, ⟨by omega, ?_⟩, by omega, ?_⟩
            · rw [tsOk_succ hp, hok2, ht]; rfl
            · simp [go_sem, tsV]
          · have ht1 : t.ok m.verts.length = false := by simpa using ht
            have ht' := T3.ok_false.1 ht1
            simp +contextual -implicitDefEqProofs [go_sem, tsV, tcs, hlt, hp', min_if, max_if]
            refine ⟨fun h => ?_, fun h1 h2 => by omega⟩
            simp [go_sem, mesh_Check.r]
            simp [Mesh.check, tsOk_false hp ht1, Nat.not_lt.2 h1.1, Nat.not_lt.2 h1.2, hok]
    | some p =>
      obtain ⟨hlt, hp'⟩ := List.getElem?_eq_some_iff.1 hp
      simp [go_sem, vsV, tsV, Mesh.cs, hlt, hp', vcs]
      refine ACall_is (hv p) ?_
      cases hvp : p.valid
      · simp [go_sem, mesh_Check.r]
        simp [Mesh.check, vsOk_false hp hvp, Nat.not_lt.2 h1.1, Nat.not_lt.2 h1.2]
      · simp [go_sem]
        simp (disch := omega) [go_sem, wrap64_small]
        refine ⟨k + 1, ⟨by omega, ?_⟩, by omega, ?_⟩
        · rw [vsOk_succ hp, hok, hvp]; rfl
        · simp [go_sem, vsV]
theorem ref07_Check_ok {f fv : FuncId} (hf : FnOk P f (ref07_Check.c fv) ref07_Check.r ref07_Check.n) (hv : ValidC P fv) : CheckC P f := by
  intro m
  refine PureC.is (pure_of hm hf (Nat.le_of_ble_eq_true rfl) ?_) rfl
  unfold ref07_Check.c
  by_cases h1 : 4096 < m.verts.length ∨ 4096 < m.tris.length
  · have h2 : m.check = 2 := by simp [Mesh.check, h1]
    simp +contextual -implicitDefEqProofs [go_sem, Mesh.enc, Mesh.cs, vsV, tsV, h2, ref07_Check.r]
    omega
  simp only [not_or, Nat.not_lt] at h1
  simp +contextual -implicitDefEqProofs [go_sem, Mesh.enc, Mesh.cs, vsV, tsV, h1, show ¬ (4096 : Int) < m.verts.length by omega, show ¬ (4096 : Int) < m.tris.length by omega]
  refine AS_loop (α := Nat) (fun k => k ≤ m.verts.length ∧ vsOk (m.verts.take k) = true)
    (fun k => ⟨[(1, .p 0 1 0 0), (19, vsV m.verts), (20, .i .i64 m.verts.length), (21, .i .i64 k)], [.arr 1 2 [m.cs]]⟩)
    (fun k => m.verts.length - k) 0 ⟨Nat.zero_le _, rfl⟩ ?_ ?_
  · simp [go_sem, Mesh.cs, vsV, tsV]
  · rintro k ⟨hk, hok⟩
    cases hp : m.verts[k]? with
    | none =>
      have : ¬ k < m.verts.length := by simpa using hp
      obtain rfl : k = m.verts.length := by omega
      rw [List.take_length] at hok
      simp [go_sem, vsV, tsV, Mesh.cs]
      refine AS_loop (α := Nat) (fun k => k ≤ m.tris.length ∧ tsOk m.verts.length (m.tris.take k) = true)
        (fun k => ⟨[(5, .i .i64 m.verts.length), (33, tsV m.tris), (34, .i .i64 m.tris.length), (35, .i .i64 k)], [.dead]⟩)
        (fun k => m.tris.length - k) 0 ⟨Nat.zero_le _, rfl⟩ ?_ ?_
      · simp [go_sem, tsV]
      · rintro k ⟨hk, hok2⟩
        cases hp : m.tris[k]? with
        | none =>
          have : ¬ k < m.tris.length := by simpa using hp
          obtain rfl : k = m.tris.length := by omega
          rw [List.take_length] at hok2
          simp [go_sem, tsV, ref07_Check.r]
          exact (Mesh.check_zero.2 ⟨h1.1, h1.2, hok, hok2⟩).symm
        | some t =>
          obtain ⟨hlt, hp'⟩ := List.getElem?_eq_some_iff.1 hp
          by_cases ht : t.ok m.verts.length = true
          · have ht' := T3.ok_iff.1 ht
            simp +contextual -implicitDefEqProofs [go_sem, tsV, tcs, hlt, hp', min_if, max_if]
            refine ⟨fun h => by omega, fun h1 h2 _ _ _ _ => ?_⟩
            simp (disch := omega) [go_sem, wrap64_small]
            refine ⟨k + 1, ⟨by omega, ?_⟩, by omega, ?_⟩
            · rw [tsOk_succ hp, hok2, ht]; rfl
            · simp [go_sem, tsV]
          · have ht1 : t.ok m.verts.length = false := by simpa using ht
            have ht' := T3.ok_false.1 ht1
            simp +contextual -implicitDefEqProofs [go_sem, tsV, tcs, hlt, hp', min_if, max_if]
            refine ⟨fun h => ?_, fun h1 h2 _ _ _ _ => by omega⟩
            simp [go_sem, ref07_Check.r]
            simp [Mesh.check, tsOk_false hp ht1, Nat.not_lt.2 h1.1, Nat.not_lt.2 h1.2, hok]
    | some p =>
      obtain ⟨hlt, hp'⟩ := List.getElem?_eq_some_iff.1 hp
      simp [go_sem, vsV, tsV, Mesh.cs, hlt, hp', vcs]
      refine ACall_is (hv p) ?_
      cases hvp : p.valid
      · simp [go_sem, ref07_Check.r]
        simp [Mesh.check, vsOk_false hp hvp, Nat.not_lt.2 h1.1, Nat.not_lt.2 h1.2]
      · simp [go_sem]
        simp (disch := omega) [go_sem, wrap64_small]
        refine ⟨k + 1, ⟨by omega, ?_⟩, by omega, ?_⟩
        · rw [vsOk_succ hp, hok, hvp]; rfl
        · simp [go_sem, vsV]
end
end Go.Abs

