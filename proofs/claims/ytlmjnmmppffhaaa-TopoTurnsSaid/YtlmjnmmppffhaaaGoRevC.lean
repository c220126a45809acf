/- What reversing a mesh does to values. -/
import Derived.Test.YtlmjnmmppffhaaaGoMeshC
set_option linter.unusedVariables false
set_option linter.unusedSimpArgs false
namespace Go.Abs

def T3.rev (t : T3) : T3 := ⟨t.a, t.c, t.b⟩
def Mesh.rev (m : Mesh) : Mesh := ⟨m.verts, m.tris.map T3.rev⟩

def ReverseC (P : Program) (f : FuncId) : Prop := ∀ m : Mesh, m.check = 0 → CallIs P f [m.enc] m.rev.enc

theorem tcs_isD (t : T3) : (∀ y ∈ t.cs, y.isD = true) = True := by simp [T3.cs, V.isD]
theorem vcs_isD (t : V3) : (∀ y ∈ t.cs, y.isD = true) = True := by simp [V3.cs, V.isD]
theorem tcs_cl (t : T3) (n : Nat) : (∀ y ∈ t.cs, y.cl n = true) = True := by simp [T3.cs, V.cl, V.cl1, V.cl0]
theorem vcs_cl (t : V3) (n : Nat) : (∀ y ∈ t.cs, y.cl n = true) = True := by simp [V3.cs, V.cl, V.cl1, V.cl0]
theorem take_mapl {α β : Type} (f : α → β) (l : List α) : List.take l.length (l.map f) = l.map f := List.take_of_length_le (by simp)
attribute [go_sem] tcs_isD vcs_isD tcs_cl vcs_cl take_mapl

section
variable {P : Program} (hm : P.follows .mixedOrders = true)
include hm

set_option maxHeartbeats 4000000 in
theorem mesh_Reverse_ok {f fc : FuncId} (hf : FnOk P f (mesh_Reverse.c fc) mesh_Reverse.r mesh_Reverse.n) (hc : CheckC P fc) : ReverseC P f := by
  intro m hz
  refine CallIs.res (r := .a [.l 3 (m.verts.map V3.cs), apV 3 ((m.tris.map T3.rev).map T3.cs)]) ?_ (.inl (.inr ⟨_, _, rfl, rfl, Le0.refl _, apV_le 3 _, trivial⟩))
  refine PureC.is (pure_of hm hf (Nat.le_of_ble_eq_true rfl) ?_) rfl
  unfold mesh_Reverse.c
  obtain ⟨z1, z2, z3, z4⟩ := Mesh.check_zero.1 hz
  have hl : (m.verts.map V3.cs).length = m.verts.length := by simp
  simp [go_sem, Mesh.enc, Mesh.cs, vsV, tsV]
  refine ACall_is (hc m) ?_
  simp [go_sem, hz]
  refine ⟨by omega, ?_⟩
  refine AS_loop (α := Nat) (fun k => k ≤ m.tris.length)
    (fun k => if k = 0 then ⟨[(2, .p 1 1 0 0), (3, .p 3 1 0 0), (16, tsV m.tris), (17, .i .i64 m.tris.length), (18, .i .i64 k)], [.dead, .arr 1 2 [[.nil, .nil]], .arr 1 3 (m.verts.map V3.cs), .arr 1 2 [[.own 2 1 0 m.verts.length, .nil]]]⟩
      else ⟨[(2, .p 1 1 0 0), (3, .p 3 1 0 0), (16, tsV m.tris), (17, .i .i64 m.tris.length), (18, .i .i64 k)], [.dead, .arr 1 2 [[.nil, .nil]], .arr 1 3 (m.verts.map V3.cs), .arr 1 2 [[.own 2 1 0 m.verts.length, .own 5 k 0 k]], .dead, .arr k 3 (((m.tris.take k).map T3.rev).map T3.cs)]⟩)
    (fun k => m.tris.length - k) 0 (Nat.zero_le _) ?_ ?_
  · simp [go_sem, tsV]
  · intro k hk
    cases hp : m.tris[k]? with
    | none =>
      have : ¬ k < m.tris.length := by simpa using hp
      obtain rfl : k = m.tris.length := by omega
      by_cases h0 : m.tris = []
      · simp [go_sem, h0, tsV, mesh_Reverse.r, apV]
      · have h0' : ¬ m.tris.length = 0 := by simpa using h0
        simp [go_sem, h0', tsV, mesh_Reverse.r, apV, h0]
    | some t =>
      obtain ⟨hlt, hp'⟩ := List.getElem?_eq_some_iff.1 hp
      have hsucc : m.tris.take (k + 1) = m.tris.take k ++ [t] := by simp [List.take_add_one, hp]
      by_cases h0 : k = 0
      · subst h0
        simp [go_sem, tsV, hlt, hp', tcs]
        simp (disch := omega) [go_sem, wrap64_small]
        refine ⟨1, by omega, by omega, ?_⟩
        have hr : List.take 1 (m.tris.map (T3.cs ∘ T3.rev)) = [t.rev.cs] := by
          rw [← List.map_take, show 1 = 0 + 1 from rfl, hsucc]; rfl
        simp [go_sem, hr, T3.rev, tcs]
      · simp [go_sem, tsV, hlt, hp', tcs, h0]
        simp (disch := omega) [go_sem, wrap64_small]
        refine ⟨⟨by omega, by omega⟩, k + 1, by omega, by omega, ?_⟩
        have hr : List.take (k + 1) (m.tris.map (T3.cs ∘ T3.rev)) = List.take k (m.tris.map (T3.cs ∘ T3.rev)) ++ [t.rev.cs] := by
          rw [← List.map_take, hsucc, List.map_append, List.map_take]; rfl
        simp [go_sem, hr, T3.rev, tcs, h0]
        refine ⟨by rw [List.take_take, Nat.min_self], ?_⟩
        rintro el (he | rfl) x hx
        · have he' := List.mem_of_mem_take he
          simp only [List.mem_map, Function.comp] at he'
          obtain ⟨a, _, rfl⟩ := he'
          exact of_eq_true (tcs_cl a.rev 6) x hx
        · simp at hx; rcases hx with rfl | rfl | rfl <;> rfl
end
end Go.Abs

