/- What the functions that make pyramids do to values. -/
import Derived.Test.YtoppidobgkgiiaaGoShpG
set_option linter.unusedVariables false
set_option linter.unusedSimpArgs false
namespace Go.Abs

def flankT (n i : Nat) : T3 := ⟨i, ((i + 1) % n : Nat), n⟩
def flankTs (n i : Nat) : List T3 := (List.range i).map (flankT n)
def pyrMesh (l : List P2) (z : Int) (a : V3) : Mesh := ⟨levelVs l z ++ [a], bottomTs (l.length - 2) ++ flankTs l.length l.length⟩
def pyrV (l : List P2) (z : Int) (a : V3) : V := if l.length < 3 ∨ 64 < l.length ∨ a.z ≤ z then mesV noMesh 1 else solidV l (pyrMesh l z a)
def PyrC (P : Program) (f : FuncId) : Prop := ∀ (l : List P2) (z : Int) (a : V3), l.length ≤ 1000 → CallIs P f [psV l, .i .i64 z, a.enc] (pyrV l z a)
theorem flankTs_len (n i : Nat) : (flankTs n i).length = i := by simp [flankTs]
theorem flankTs_succ (n i : Nat) : flankTs n (i + 1) = flankTs n i ++ [flankT n i] := by simp [flankTs, List.range_succ]
theorem cl_v1c {A : List V3} {a : V3} {n : Nat} : ∀ el : List V, ((∃ b, b ∈ A ∧ b.cs = el) ∨ el = [.i .i64 a.x, .i .i64 a.y, .i .i64 a.z]) → ∀ x : V, x ∈ el → x.cl n = true := by
  rintro el (⟨b, _, rfl⟩ | rfl) x hx
  · exact of_eq_true (vcs_cl b n) x hx
  · exact of_eq_true (vcs_cl a n) x hx

theorem isD_i (k : IntKind) (n : Int) : (V.i k n).isD = true := rfl

section
variable {P : Program} (hm : P.follows .mixedOrders = true)
include hm

set_option maxHeartbeats 8000000 in
theorem shapes_Pyramid_ok {f fl fb fs : FuncId} (hf : FnOk P f (shapes_Pyramid.c fl fb fs) shapes_Pyramid.r shapes_Pyramid.n) (hlev : LevelC P fl) (hbot : BottomC P fb) (hsol : SolidC P fs) : PyrC P f := by
  intro l z a hl
  by_cases h1 : l.length < 3 ∨ 64 < l.length ∨ a.z ≤ z
  · have hp : pyrV l z a = mesV noMesh 1 := by rw [pyrV, if_pos h1]
    rw [hp]
    refine CallIs.res (r := .t [.a [.nil, .nil], .i .i64 1]) ?_ (noMesh_le 1)
    refine PureC.is (pure_of hm hf (Nat.le_of_ble_eq_true rfl) ?_) rfl
    unfold shapes_Pyramid.c
    by_cases h2 : (l.length : Int) < 3
    · simp [go_sem, psV, V3.enc, V3.cs, h2, shapes_Pyramid.r]
    · by_cases h3 : (64 : Int) < l.length
      · simp [go_sem, psV, V3.enc, V3.cs, h2, h3, shapes_Pyramid.r]
      · have h4 : a.z ≤ z := by omega
        simp [go_sem, psV, V3.enc, V3.cs, h2, h3, h4, shapes_Pyramid.r]
  have h2 : ¬ (l.length : Int) < 3 := by omega
  have h3 : ¬ (64 : Int) < l.length := by omega
  have h4 : ¬ a.z ≤ z := by omega
  have hp : pyrV l z a = solidV l (pyrMesh l z a) := by rw [pyrV, if_neg h1]
  rw [hp]
  obtain ⟨m, hm2⟩ : ∃ m, l.length = m + 2 := ⟨l.length - 2, by omega⟩
  refine PureC.is (pure_of hm hf (Nat.le_of_ble_eq_true rfl) ?_) rfl
  unfold shapes_Pyramid.c
  simp [go_sem, psV, V3.enc, V3.cs, h2, h3, h4]
  refine DCall_new (hlev l z hl) rfl ?_
  simp [go_sem, sh_vcs, take_lev, levelVs_len]
  refine ⟨⟨by omega, by omega⟩, ?_⟩
  refine DCall_new (hbot.of hm2 (by omega)) rfl ?_
  simp [go_sem, sh_tcs]
  refine AS_loop (α := Nat) (fun i => i ≤ l.length)
    (fun i => ⟨[(0, psV l), (6, .p 1 1 0 0), (8, .i .i64 l.length), (9, .p 4 1 0 0), (35, .i .i64 l.length), (36, .i .i64 i)],
      [.dead, .arr 1 2 [[.nil, .nil]], .arr (l.length + 1 + 1) 3 (List.map V3.cs (levelVs l z) ++ [[.i .i64 a.x, .i .i64 a.y, .i .i64 a.z]]), .arr (m + 1 + i) 3 (List.map T3.cs (bottomTs m ++ flankTs l.length i)), .arr 1 2 [[.own 2 (l.length + 1 + 1) 0 (l.length + 1), .own 3 (m + 1 + i) 0 (m + i)]]]⟩)
    (fun i => l.length - i) 0 (Nat.zero_le _) ?_ ?_
  · simp [go_sem, psV, flankTs]
    exact cl_v1c
  · intro i hi
    have e1 := bottomTs_len m
    have e2 := flankTs_len l.length i
    by_cases hil : i = l.length
    · subst hil
      simp (disch := omega) [go_sem, wrap64_small, psV]
      have hk2 : l.length - 2 = m := by omega
      have q1 : List.take (l.length + 1) (List.map V3.cs (levelVs l z) ++ [[.i .i64 a.x, .i .i64 a.y, .i .i64 a.z]]) = List.map V3.cs (levelVs l z) ++ [[.i .i64 a.x, .i .i64 a.y, .i .i64 a.z]] :=
        List.take_of_length_le (by simp [levelVs_len])
      have q2 : List.take (m + l.length) (List.map T3.cs (bottomTs m) ++ List.map T3.cs (flankTs l.length l.length)) = List.map T3.cs (bottomTs m) ++ List.map T3.cs (flankTs l.length l.length) :=
        List.take_of_length_le (by simp [e1, flankTs_len])
      refine ACall_frz (vs := [psV l, (pyrMesh l z a).enc]) ?_ (hsol l (pyrMesh l z a) hl (by simp [pyrMesh, levelVs]; omega)) ?_
      · simp [go_sem, frzAll, frz, frz0, psV, pyrMesh, Mesh.enc, Mesh.cs, vsV, tsV, hk2, q1, q2, levelVs_len, bottomTs_len, flankTs_len, or_imp, forall_and, vcs_isD, tcs_isD, isD_i, vcs]
      · unfold solidV
        split
        · simp [go_sem, shapes_Pyramid.r, mesV, noMesh, Mesh.enc, Mesh.cs, vsV, tsV]
        · split <;> simp [go_sem, shapes_Pyramid.r, mesV, noMesh, Mesh.enc, Mesh.cs, vsV, tsV]
    · have hne : ¬ l = [] := by rintro rfl; simp at hm2
      have hj : ((i : Int) + 1).tmod (l.length : Int) = (((i + 1) % l.length : Nat) : Int) := by
        rw [Int.tmod_eq_emod_of_nonneg (by omega)]; simp
      have hjl : (i + 1) % l.length < l.length := Nat.mod_lt _ (by omega)
      have hside : flankT l.length i = ⟨i, ((i + 1) % l.length : Nat), l.length⟩ := rfl
      generalize (i + 1) % l.length = j at hj hjl hside
      simp (disch := omega) [go_sem, wrap64_small, psV, show (i : Int) < (l.length : Int) by omega, hne, hj]
      refine ⟨⟨by omega, by omega, by omega⟩, i + 1, by omega, by omega, by omega, cl_v1c, ⟨⟨by omega, ?_⟩, cl_t2⟩, by omega, by omega⟩
      rw [List.take_of_length_le (by simp; omega), flankTs_succ, hside]
      simp [T3.cs]

set_option maxHeartbeats 8000000 in
theorem ref13_Pyramid_ok {f fat fv fc : FuncId} (hf : FnOk P f (ref13_Pyramid.c fat fv fc) ref13_Pyramid.r ref13_Pyramid.n) (hat : LevelC P fat) (hfit : FitsVC P fv) (hcv : ConvexC P fc) : PyrC P f := by
  intro l z a hl
  by_cases h1 : l.length < 3 ∨ 64 < l.length ∨ a.z ≤ z
  · have hp : pyrV l z a = mesV noMesh 1 := by rw [pyrV, if_pos h1]
    rw [hp]
    refine CallIs.res (r := .t [.a [.nil, .nil], .i .i64 1]) ?_ (noMesh_le 1)
    refine PureC.is (pure_of hm hf (Nat.le_of_ble_eq_true rfl) ?_) rfl
    unfold ref13_Pyramid.c
    by_cases h2 : (l.length : Int) < 3
    · simp [go_sem, psV, V3.enc, V3.cs, h2, ref13_Pyramid.r]
    · by_cases h3 : (64 : Int) < l.length
      · simp [go_sem, psV, V3.enc, V3.cs, h2, h3, ref13_Pyramid.r]
      · have h4 : a.z ≤ z := by omega
        simp [go_sem, psV, V3.enc, V3.cs, h2, h3, h4, ref13_Pyramid.r]
  have h2 : ¬ (l.length : Int) < 3 := by omega
  have h3 : ¬ (64 : Int) < l.length := by omega
  have h4 : ¬ a.z ≤ z := by omega
  have hp : pyrV l z a = solidV l (pyrMesh l z a) := by rw [pyrV, if_neg h1]
  rw [hp]
  obtain ⟨m, hm2⟩ : ∃ m, l.length = m + 2 := ⟨l.length - 2, by omega⟩
  have hvl : (pyrMesh l z a).verts.length ≤ 1000000 := by simp [pyrMesh, levelVs_len]; omega
  have hfit' := (hfit (pyrMesh l z a).verts hvl).pure
  have q1 : List.take (l.length + 1) (List.map V3.cs (levelVs l z) ++ [[.i .i64 a.x, .i .i64 a.y, .i .i64 a.z]]) = List.map V3.cs (levelVs l z) ++ [[.i .i64 a.x, .i .i64 a.y, .i .i64 a.z]] :=
    List.take_of_length_le (by simp [levelVs_len])
  refine CallIs.res ?_ (solidN_le l _)
  refine PureC.is (pure_of hm hf (Nat.le_of_ble_eq_true rfl) ?_) rfl
  unfold ref13_Pyramid.c
  simp [go_sem, psV, V3.enc, V3.cs, h2, h3, h4]
  refine ACall_new (hat l z hl) rfl ?_
  simp [go_sem, sh_vcs, take_lev, levelVs_len]
  refine ⟨⟨by omega, by omega⟩, ?_⟩
  refine ACall_lend (vs := [vsV (pyrMesh l z a).verts]) ?_ hfit' rfl ?_
  · simp [go_sem, frzAll, frz, frz0, vsV, pyrMesh, q1, levelVs_len, or_imp, forall_and, vcs_isD, isD_i, vcs]
  unfold solidN
  cases hvs : vsOk (pyrMesh l z a).verts
  · simp [go_sem, ref13_Pyramid.r]
  simp [go_sem]
  refine ACall_is (hcv l hl) ?_
  cases hcx : convexB l
  · simp [go_sem, ref13_Pyramid.r]
  simp [go_sem]
  refine AS_loopG [.c 3 0 1 3] (α := Nat) (fun k => k ≤ m)
    (fun k => ⟨[(6, .p 1 1 0 0), (8, .i .i64 l.length), (9, .p 3 1 0 0), (10, .i .i64 ((k : Int) + 1))],
      [.dead, .arr 1 2 [[.nil, .nil]], .arr (l.length + 1 + 1) 3 (List.map V3.cs (levelVs l z) ++ [[.i .i64 a.x, .i .i64 a.y, .i .i64 a.z]]), .arr 1 2 [[.own 2 (l.length + 1 + 1) 0 (l.length + 1), .own 4 (k + 1) 0 k]], .arr (k + 1) 3 (List.map T3.cs (bottomTs k))]⟩)
    (fun k => m - k) 0 (Nat.zero_le _) ?_ ?_
  · simp [go_sem, bottomTs]
    exact cl_v1c
  · intro k hk
    by_cases hkm : k = m
    · subst hkm
      simp (disch := omega) [go_sem, wrap64_small, show ¬ (k : Int) + 1 ≤ (l.length : Int) - 2 by omega]
      refine AS_loop (α := Nat) (fun i => i ≤ l.length)
        (fun i => ⟨[(6, .p 1 1 0 0), (8, .i .i64 l.length), (9, .p 3 1 0 0), (11, .i .i64 i)],
          [.dead, .arr 1 2 [[.nil, .nil]], .arr (l.length + 1 + 1) 3 (List.map V3.cs (levelVs l z) ++ [[.i .i64 a.x, .i .i64 a.y, .i .i64 a.z]]), .arr 1 2 [[.own 2 (l.length + 1 + 1) 0 (l.length + 1), .own 4 (k + 1 + i) 0 (k + i)]], .arr (k + 1 + i) 3 (List.map T3.cs (bottomTs k ++ flankTs l.length i))]⟩)
        (fun i => l.length - i) 0 (Nat.zero_le _) ?_ ?_
      · simp [go_sem, flankTs]
        first | exact ⟨cl_v1c, cl_t1⟩ | exact cl_v1c
      · intro i hi
        have e1 := bottomTs_len k
        have e2 := flankTs_len l.length i
        by_cases hil : i = l.length
        · subst hil
          have hk2 : l.length - 2 = k := by omega
          have q2 : List.take (k + l.length) (List.map T3.cs (bottomTs k) ++ List.map T3.cs (flankTs l.length l.length)) = List.map T3.cs (bottomTs k) ++ List.map T3.cs (flankTs l.length l.length) :=
            List.take_of_length_le (by simp [e1, flankTs_len])
          simp (disch := omega) [go_sem, ref13_Pyramid.r, pyrMesh, mesV, Mesh.enc, Mesh.cs, vsV, tsV, hk2, q1, q2, levelVs_len, bottomTs_len, flankTs_len, or_imp, forall_and, vcs_isD, tcs_isD, isD_i, vcs]
        · have hne : ¬ l = [] := by rintro rfl; simp at hm2
          have hj : ((i : Int) + 1).tmod (l.length : Int) = (((i + 1) % l.length : Nat) : Int) := by
            rw [Int.tmod_eq_emod_of_nonneg (by omega)]; simp
          have hjl : (i + 1) % l.length < l.length := Nat.mod_lt _ (by omega)
          have hside : flankT l.length i = ⟨i, ((i + 1) % l.length : Nat), l.length⟩ := rfl
          generalize (i + 1) % l.length = j at hj hjl hside
          simp (disch := omega) [go_sem, wrap64_small, show (i : Int) < (l.length : Int) by omega, hne, hj]
          refine ⟨⟨by omega, by omega, by omega⟩, i + 1, by omega, by omega, by omega, cl_v1c, ⟨by omega, by omega⟩, ⟨by omega, ?_⟩, cl_t2⟩
          rw [List.take_of_length_le (by simp; omega), flankTs_succ, hside]
          simp [T3.cs]
    · simp (disch := omega) [go_sem, wrap64_small, show (k : Int) + 1 ≤ (l.length : Int) - 2 by omega]
      have e1 := bottomTs_len k
      refine ⟨⟨by omega, by omega, by omega⟩, k + 1, by omega, by omega, by omega, cl_v1c, rfl, ?_⟩
      rw [List.take_of_length_le (by simp; omega)]
      simp [bottomTs, List.range_succ, bottomT, T3.cs]
      omega
end
end Go.Abs
