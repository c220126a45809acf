/- What the functions that make prisms and pyramids do to values. -/
import Derived.Test.YtoppidobgkgiiaaGoShpE
import Derived.Test.YtoppidobgkgiiaaGoShpB
set_option linter.unusedVariables false
set_option linter.unusedSimpArgs false
namespace Go.Abs

def solidV (l : List P2) (m : Mesh) : V :=
  if vsOk m.verts = false then mesV noMesh 8 else if convexB l = false then mesV noMesh 1 else mesV m 0
def SolidC (P : Program) (f : FuncId) : Prop := ∀ (l : List P2) (m : Mesh), l.length ≤ 1000 → m.verts.length ≤ 1000000 → CallIs P f [psV l, m.enc] (solidV l m)

def topT (n k : Nat) : T3 := ⟨n, (n : Int) + (k + 1), (n : Int) + (k + 1) + 1⟩
def topTs (n k : Nat) : List T3 := (List.range k).map (topT n)
def sideT (n i : Nat) : List T3 := [⟨i, ((i + 1) % n : Nat), (n : Int) + ((i + 1) % n : Nat)⟩, ⟨i, (n : Int) + ((i + 1) % n : Nat), (n : Int) + i⟩]
def sideTs (n i : Nat) : List T3 := (List.range i).flatMap (sideT n)
def prismMesh (l : List P2) (z h : Int) : Mesh :=
  ⟨levelVs l z ++ levelVs l (z + h), bottomTs (l.length - 2) ++ topTs l.length (l.length - 2) ++ sideTs l.length l.length⟩
def prismV (l : List P2) (z h : Int) : V := if l.length < 3 ∨ 64 < l.length ∨ h < 1 then mesV noMesh 1 else solidV l (prismMesh l z h)
def PrismC (P : Program) (f : FuncId) : Prop := ∀ (l : List P2) (z h : Int), l.length ≤ 1000 → inI z = true → inI h = true → CallIs P f [psV l, .i .i64 z, .i .i64 h] (prismV l z h)

theorem levelVs_len (l : List P2) (z : Int) : (levelVs l z).length = l.length := by simp [levelVs]
theorem bottomTs_len (n : Nat) : (bottomTs n).length = n := by simp [bottomTs]
theorem topTs_len (n k : Nat) : (topTs n k).length = k := by simp [topTs]
theorem sideTs_len (n i : Nat) : (sideTs n i).length = 2 * i := by
  induction i with
  | zero => rfl
  | succ i ih => simp only [sideTs, List.range_succ, List.flatMap_append, List.length_append] at ih ⊢; rw [ih]; simp [sideT]; omega
theorem topTs_succ (n k : Nat) : topTs n (k + 1) = topTs n k ++ [topT n k] := by simp [topTs, List.range_succ]
theorem sideTs_succ (n i : Nat) : sideTs n (i + 1) = sideTs n i ++ sideT n i := by simp [sideTs, List.range_succ]

theorem sh_vcs (k : Nat) : ((fun el => List.map (V.sh1 k) el) ∘ V3.cs) = V3.cs := by funext v; rfl
theorem sh_tcs (k : Nat) : ((fun el => List.map (V.sh1 k) el) ∘ T3.cs) = T3.cs := by funext v; rfl
theorem cl_v2 {A B : List V3} {n : Nat} : ∀ el : List V, ((∃ a, a ∈ A ∧ a.cs = el) ∨ ∃ a, a ∈ B ∧ a.cs = el) → ∀ x : V, x ∈ el → x.cl n = true := by
  rintro el (⟨a, _, rfl⟩ | ⟨a, _, rfl⟩) x hx <;> exact of_eq_true (vcs_cl a n) x hx
theorem cl_t2 {A B : List T3} {n : Nat} : ∀ el : List V, ((∃ a, a ∈ A ∧ a.cs = el) ∨ ∃ a, a ∈ B ∧ a.cs = el) → ∀ x : V, x ∈ el → x.cl n = true := by
  rintro el (⟨a, _, rfl⟩ | ⟨a, _, rfl⟩) x hx <;> exact of_eq_true (tcs_cl a n) x hx
theorem cl_t3 {A B D : List T3} {n : Nat} : ∀ el : List V, ((∃ a, a ∈ A ∧ a.cs = el) ∨ (∃ a, a ∈ B ∧ a.cs = el) ∨ ∃ a, a ∈ D ∧ a.cs = el) → ∀ x : V, x ∈ el → x.cl n = true := by
  rintro el (⟨a, _, rfl⟩ | ⟨a, _, rfl⟩ | ⟨a, _, rfl⟩) x hx <;> exact of_eq_true (tcs_cl a n) x hx
theorem take_lev (l : List P2) (z : Int) : List.take l.length (List.map V3.cs (levelVs l z)) = List.map V3.cs (levelVs l z) := List.take_of_length_le (by simp [levelVs])
theorem BottomC.of {P : Program} {f : FuncId} (hb : BottomC P f) {n k : Nat} (hn : n = k + 2) (hk : k ≤ 1000) : NewC P f [.i .i64 n] (fun r h => r = .own 0 (k + 1) 0 k ∧ h = [.arr (k + 1) 3 ((bottomTs k).map T3.cs)]) := by
  subst hn; exact hb k hk

section
variable {P : Program} (hm : P.follows .mixedOrders = true)
include hm

set_option maxHeartbeats 4000000 in
theorem shapes_solid_ok {f ff fc : FuncId} (hf : FnOk P f (shapes_solid.c ff fc) shapes_solid.r shapes_solid.n) (hfit : FitsVC P ff) (hcv : ConvexC P fc) : SolidC P f := by
  intro l m hl hml
  unfold solidV
  cases h1 : vsOk m.verts
  · rw [if_pos rfl]
    refine CallIs.res (r := .t [.a [.nil, .nil], .i .i64 8]) ?_ (noMesh_le 8)
    refine PureC.is (pure_of hm hf (Nat.le_of_ble_eq_true rfl) ?_) rfl
    unfold shapes_solid.c
    simp [go_sem, Mesh.enc, Mesh.cs]
    refine ACall_is (hfit m.verts hml) ?_
    simp [go_sem, h1, shapes_solid.r]
  rw [if_neg (by simp)]
  cases h2 : convexB l
  · rw [if_pos rfl]
    refine CallIs.res (r := .t [.a [.nil, .nil], .i .i64 1]) ?_ (noMesh_le 1)
    refine PureC.is (pure_of hm hf (Nat.le_of_ble_eq_true rfl) ?_) rfl
    unfold shapes_solid.c
    simp [go_sem, Mesh.enc, Mesh.cs]
    refine ACall_is (hfit m.verts hml) ?_
    simp [go_sem, h1]
    refine ACall_is (hcv l hl) ?_
    simp [go_sem, h2, shapes_solid.r]
  rw [if_neg (by simp)]
  refine PureC.is (pure_of hm hf (Nat.le_of_ble_eq_true rfl) ?_) rfl
  unfold shapes_solid.c
  simp [go_sem, Mesh.enc, Mesh.cs]
  refine ACall_is (hfit m.verts hml) ?_
  simp [go_sem, h1]
  refine ACall_is (hcv l hl) ?_
  simp [go_sem, h2, shapes_solid.r, mesV, Mesh.enc, Mesh.cs, vsV, tsV]

set_option maxHeartbeats 8000000 in
theorem shapes_Prism_ok {f fl fb fs : FuncId} (hf : FnOk P f (shapes_Prism.c fl fb fs) shapes_Prism.r shapes_Prism.n) (hlev : LevelC P fl) (hbot : BottomC P fb) (hsol : SolidC P fs) : PrismC P f := by
  intro l z h hl hz hh
  have hz := inI_iff.1 hz
  have hh := inI_iff.1 hh
  by_cases h1 : l.length < 3 ∨ 64 < l.length ∨ h < 1
  · have hp : prismV l z h = mesV noMesh 1 := by rw [prismV, if_pos h1]
    rw [hp]
    refine CallIs.res (r := .t [.a [.nil, .nil], .i .i64 1]) ?_ (noMesh_le 1)
    refine PureC.is (pure_of hm hf (Nat.le_of_ble_eq_true rfl) ?_) rfl
    unfold shapes_Prism.c
    by_cases h2 : (l.length : Int) < 3
    · simp [go_sem, psV, h2, shapes_Prism.r]
    · by_cases h3 : (64 : Int) < l.length
      · simp [go_sem, psV, h2, h3, shapes_Prism.r]
      · have h4 : h < 1 := by omega
        simp [go_sem, psV, h2, h3, h4, shapes_Prism.r]
  have h2 : ¬ (l.length : Int) < 3 := by omega
  have h3 : ¬ (64 : Int) < l.length := by omega
  have h4 : ¬ h < 1 := by omega
  have hp : prismV l z h = solidV l (prismMesh l z h) := by rw [prismV, if_neg h1]
  rw [hp]
  by_cases h5 : 131072 < h ∨ z < -131072 ∨ 131072 < z
  · have hp : solidV l (prismMesh l z h) = mesV noMesh 8 := by
      have : vsOk (prismMesh l z h).verts = false := by
        cases l with
        | nil => simp at h2
        | cons p r =>
          rw [Bool.eq_false_iff]
          intro hv
          simp only [prismMesh, vsOk, levelVs, List.map_cons, List.cons_append, List.all_cons, List.all_append, Bool.and_eq_true] at hv
          have a1 := V3.valid_iff.1 hv.1
          have a2 := V3.valid_iff.1 hv.2.2.1
          simp only at a1 a2
          omega
      rw [solidV, if_pos this]
    rw [hp]
    refine CallIs.res (r := .t [.a [.nil, .nil], .i .i64 8]) ?_ (noMesh_le 8)
    refine PureC.is (pure_of hm hf (Nat.le_of_ble_eq_true rfl) ?_) rfl
    unfold shapes_Prism.c
    by_cases h6 : 131072 < h
    · simp [go_sem, psV, h2, h3, h4, h6, shapes_Prism.r]
    · by_cases h7 : z < -131072
      · simp [go_sem, psV, h2, h3, h4, h6, h7, shapes_Prism.r]
      · have h8 : 131072 < z := by omega
        simp [go_sem, psV, h2, h3, h4, h6, h7, h8, shapes_Prism.r]
  have h6 : ¬ 131072 < h := by omega
  have h7 : ¬ z < -131072 := by omega
  have h8 : ¬ 131072 < z := by omega
  obtain ⟨m, hm2⟩ : ∃ m, l.length = m + 2 := ⟨l.length - 2, by omega⟩
  refine PureC.is (pure_of hm hf (Nat.le_of_ble_eq_true rfl) ?_) rfl
  unfold shapes_Prism.c
  simp [go_sem, psV, h2, h3, h4, h6, h7, h8]
  refine ACall_new (hlev l z hl) rfl ?_
  simp [go_sem]
  simp (disch := omega) [go_sem, wrap64_small]
  refine ACall_new (hlev l (z + h) hl) rfl ?_
  simp [go_sem, levelVs_len, sh_vcs, take_lev]
  refine ⟨⟨by omega, by omega⟩, ?_⟩
  refine ACall_new (hbot.of hm2 (by omega)) rfl ?_
  simp [go_sem, sh_tcs]
  refine AS_loop (α := Nat) (fun k => k ≤ m)
    (fun k => ⟨[(0, psV l), (6, .p 0 1 0 0), (8, .i .i64 l.length), (9, .p 4 1 0 0), (10, .i .i64 ((k : Int) + 1))],
      [.arr 1 2 [[.nil, .nil]], .arr (l.length + 1 + 1) 3 (List.map V3.cs (levelVs l z) ++ List.map V3.cs (levelVs l (z + h))), .dead, .arr (m + 1 + k) 3 (List.map T3.cs (bottomTs m ++ topTs l.length k)), .arr 1 2 [[.own 1 (l.length + 1 + 1) 0 (l.length + l.length), .own 3 (m + 1 + k) 0 (m + k)]]]⟩)
    (fun k => m - k) 0 (Nat.zero_le _) ?_ ?_
  · simp [go_sem, psV, topTs]
    exact cl_v2
  · intro k hk
    by_cases hkm : k = m
    · subst hkm
      simp (disch := omega) [go_sem, wrap64_small, psV, show ¬ (k : Int) + 1 < (l.length : Int) - 1 by omega]
      refine AS_loop (α := Nat) (fun i => i ≤ l.length)
        (fun i => ⟨[(0, psV l), (6, .p 0 1 0 0), (8, .i .i64 l.length), (9, .p 4 1 0 0), (71, .i .i64 l.length), (72, .i .i64 i)],
          [.arr 1 2 [[.nil, .nil]], .arr (l.length + 1 + 1) 3 (List.map V3.cs (levelVs l z) ++ List.map V3.cs (levelVs l (z + h))), .dead, .arr (k + 1 + k + i) 3 (List.map T3.cs (bottomTs k ++ topTs l.length k ++ sideTs l.length i)), .arr 1 2 [[.own 1 (l.length + 1 + 1) 0 (l.length + l.length), .own 3 (k + 1 + k + i) 0 (k + k + 2 * i)]]]⟩)
        (fun i => l.length - i) 0 (Nat.zero_le _) ?_ ?_
      · simp [go_sem, psV, sideTs]
        exact ⟨cl_v2, cl_t2⟩
      · intro i hi
        by_cases hil : i = l.length
        · subst hil
          simp (disch := omega) [go_sem, wrap64_small, psV]
          have hk2 : l.length - 2 = k := by omega
          refine ACall_frz (vs := [psV l, (prismMesh l z h).enc]) ?_ (hsol l (prismMesh l z h) hl (by simp [prismMesh, levelVs]; omega)) ?_
          · have q1 : List.take (l.length + l.length) (List.map V3.cs (levelVs l z) ++ List.map V3.cs (levelVs l (z + h))) = List.map V3.cs (levelVs l z) ++ List.map V3.cs (levelVs l (z + h)) :=
              List.take_of_length_le (by simp [levelVs_len])
            have q2 : List.take (k + k + 2 * l.length) (List.map T3.cs (bottomTs k) ++ (List.map T3.cs (topTs l.length k) ++ List.map T3.cs (sideTs l.length l.length))) = List.map T3.cs (bottomTs k) ++ (List.map T3.cs (topTs l.length k) ++ List.map T3.cs (sideTs l.length l.length)) :=
              List.take_of_length_le (by simp [bottomTs_len, topTs_len, sideTs_len]; omega)
            have q3 : k + k + 2 * l.length ≤ k + (k + 2 * l.length) := by omega
            simp [go_sem, frzAll, frz, frz0, psV, prismMesh, Mesh.enc, Mesh.cs, vsV, tsV, hk2, q1, q2, q3, levelVs_len, bottomTs_len, topTs_len, sideTs_len, or_imp, forall_and, vcs_isD, tcs_isD]
          · unfold solidV
            split
            · simp [go_sem, shapes_Prism.r, mesV, noMesh, Mesh.enc, Mesh.cs, vsV, tsV]
            · split <;> simp [go_sem, shapes_Prism.r, mesV, noMesh, Mesh.enc, Mesh.cs, vsV, tsV]
        · have hne : ¬ l = [] := by rintro rfl; simp at hm2
          have hj : ((i : Int) + 1).tmod (l.length : Int) = (((i + 1) % l.length : Nat) : Int) := by
            rw [Int.tmod_eq_emod_of_nonneg (by omega)]; simp
          have hjl : (i + 1) % l.length < l.length := Nat.mod_lt _ (by omega)
          have hside : sideT l.length i = [⟨i, ((i + 1) % l.length : Nat), (l.length : Int) + ((i + 1) % l.length : Nat)⟩, ⟨i, (l.length : Int) + ((i + 1) % l.length : Nat), (l.length : Int) + i⟩] := rfl
          generalize (i + 1) % l.length = j at hj hjl hside
          simp (disch := omega) [go_sem, wrap64_small, psV, show (i : Int) < (l.length : Int) by omega, hne, hj]
          have e1 := bottomTs_len k
          have e2 := topTs_len l.length k
          have e3 := sideTs_len l.length i
          refine ⟨⟨by omega, by omega, by omega⟩, i + 1, by omega, by omega, by omega, cl_v2, ⟨⟨by omega, ?_⟩, cl_t3⟩, by omega, by omega⟩
          rw [List.take_of_length_le (by simp; omega), sideTs_succ, hside]
          simp [T3.cs]
    · simp (disch := omega) [go_sem, wrap64_small, psV, show (k : Int) + 1 < (l.length : Int) - 1 by omega]
      have hlen : (bottomTs m).length = m := bottomTs_len m
      have hlen2 : (topTs l.length k).length = k := topTs_len _ k
      refine ⟨⟨by omega, by omega, by omega⟩, k + 1, by omega, by omega, by omega, cl_v2, ⟨⟨by omega, ?_⟩, cl_t2⟩, by omega, by omega⟩
      rw [List.take_of_length_le (by simp [hlen, hlen2]), topTs_succ]
      simp [topT, T3.cs]
end
end Go.Abs

