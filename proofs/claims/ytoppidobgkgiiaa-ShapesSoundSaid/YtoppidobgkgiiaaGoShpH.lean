/- Part of the library on which the proof stands: an abstract machine, its values and its soundness against the model; or what functions of the program do to such values. -/
import Derived.Test.YtoppidobgkgiiaaGoShpB
set_option linter.unusedVariables false
set_option linter.unusedSimpArgs false
namespace Go.Abs

def solidV (l : List P2) (m : Mesh) : V :=
  if vsOk m.verts = false then mesV noMesh 8 else if convexB l = false then mesV noMesh 1 else mesV m 0
def SolidC (P : Program) (f : FuncId) : Prop := ∀ (l : List P2) (m : Mesh), l.length ≤ 1000 → m.verts.length ≤ 1000000 → CallIs P f [psV l, m.enc] (solidV l m)

def topT (n k : Nat) : T3 := ⟨n, (n : Int) + (k + 1), (n : Int) + (k + 1) + 1⟩
def topTs (n k : Nat) : List T3 := (List.range k).map (topT n)
def sideT (n i : Nat) : List T3 := [⟨i, ((i + 1) % n : Nat), (n : Int) + ((i + 1) % n : Nat)⟩, ⟨i, (n : Int) + ((i + 1) % n : Nat), (n : Int) + i⟩]
def sideTs (n i : Nat) : List T3 := (List.range i).flatMap (sideT n)
def prismMesh (l : List P2) (z h : Int) : Mesh :=
  ⟨levelVs l z ++ levelVs l (z + h), bottomTs (l.length - 2) ++ topTs l.length (l.length - 2) ++ sideTs l.length l.length⟩
def prismV (l : List P2) (z h : Int) : V := if l.length < 3 ∨ 64 < l.length ∨ h < 1 then mesV noMesh 1 else solidV l (prismMesh l z h)
def PrismC (P : Program) (f : FuncId) : Prop := ∀ (l : List P2) (z h : Int), l.length ≤ 1000 → inI z = true → inI h = true → CallIs P f [psV l, .i .i64 z, .i .i64 h] (prismV l z h)

theorem levelVs_len (l : List P2) (z : Int) : (levelVs l z).length = l.length := by simp [levelVs]
theorem bottomTs_len (n : Nat) : (bottomTs n).length = n := by simp [bottomTs]
theorem topTs_len (n k : Nat) : (topTs n k).length = k := by simp [topTs]
theorem sideTs_len (n i : Nat) : (sideTs n i).length = 2 * i := by
  induction i with
  | zero => rfl
  | succ i ih => simp only [sideTs, List.range_succ, List.flatMap_append, List.length_append] at ih ⊢; rw [ih]; simp [sideT]; omega
theorem topTs_succ (n k : Nat) : topTs n (k + 1) = topTs n k ++ [topT n k] := by simp [topTs, List.range_succ]
theorem sideTs_succ (n i : Nat) : sideTs n (i + 1) = sideTs n i ++ sideT n i := by simp [sideTs, List.range_succ]

theorem sh_vcs (k : Nat) : ((fun el => List.map (V.sh1 k) el) ∘ V3.cs) = V3.cs := by funext v; rfl
theorem sh_tcs (k : Nat) : ((fun el => List.map (V.sh1 k) el) ∘ T3.cs) = T3.cs := by funext v; rfl
theorem cl_v2 {A B : List V3} {n : Nat} : ∀ el : List V, ((∃ a, a ∈ A ∧ a.cs = el) ∨ ∃ a, a ∈ B ∧ a.cs = el) → ∀ x : V, x ∈ el → x.cl n = true := by
  rintro el (⟨a, _, rfl⟩ | ⟨a, _, rfl⟩) x hx <;> exact of_eq_true (vcs_cl a n) x hx
theorem cl_t2 {A B : List T3} {n : Nat} : ∀ el : List V, ((∃ a, a ∈ A ∧ a.cs = el) ∨ ∃ a, a ∈ B ∧ a.cs = el) → ∀ x : V, x ∈ el → x.cl n = true := by
  rintro el (⟨a, _, rfl⟩ | ⟨a, _, rfl⟩) x hx <;> exact of_eq_true (tcs_cl a n) x hx
theorem cl_t3 {A B D : List T3} {n : Nat} : ∀ el : List V, ((∃ a, a ∈ A ∧ a.cs = el) ∨ (∃ a, a ∈ B ∧ a.cs = el) ∨ ∃ a, a ∈ D ∧ a.cs = el) → ∀ x : V, x ∈ el → x.cl n = true := by
  rintro el (⟨a, _, rfl⟩ | ⟨a, _, rfl⟩ | ⟨a, _, rfl⟩) x hx <;> exact of_eq_true (tcs_cl a n) x hx
theorem take_lev (l : List P2) (z : Int) : List.take l.length (List.map V3.cs (levelVs l z)) = List.map V3.cs (levelVs l z) := List.take_of_length_le (by simp [levelVs])
theorem BottomC.of {P : Program} {f : FuncId} (hb : BottomC P f) {n k : Nat} (hn : n = k + 2) (hk : k ≤ 1000) : NewC P f [.i .i64 n] (fun r h => r = .own 0 (k + 1) 0 k ∧ h = [.arr (k + 1) 3 ((bottomTs k).map T3.cs)]) := by
  subst hn; exact hb k hk

section
variable {P : Program} (hm : P.follows .mixedOrders = true)
include hm

set_option maxHeartbeats 4000000 in
theorem shapes_solid_ok {f ff fc : FuncId} (hf : FnOk P f (shapes_solid.c ff fc) shapes_solid.r shapes_solid.n) (hfit : FitsVC P ff) (hcv : ConvexC P fc) : SolidC P f := by
  intro l m hl hml
  unfold solidV
  cases h1 : vsOk m.verts
  · rw [if_pos rfl]
    refine CallIs.res (r := .t [.a [.nil, .nil], .i .i64 8]) ?_ (noMesh_le 8)
    refine PureC.is (pure_of hm hf (Nat.le_of_ble_eq_true rfl) ?_) rfl
    unfold shapes_solid.c
    simp [go_sem, Mesh.enc, Mesh.cs]
    refine ACall_is (hfit m.verts hml) ?_
    simp [go_sem, h1, shapes_solid.r]
  rw [if_neg (by simp)]
  cases h2 : convexB l
  · rw [if_pos rfl]
    refine CallIs.res (r := .t [.a [.nil, .nil], .i .i64 1]) ?_ (noMesh_le 1)
    refine PureC.is (pure_of hm hf (Nat.le_of_ble_eq_true rfl) ?_) rfl
    unfold shapes_solid.c
    simp [go_sem, Mesh.enc, Mesh.cs]
    refine ACall_is (hfit m.verts hml) ?_
    simp [go_sem, h1]
    refine ACall_is (hcv l hl) ?_
    simp [go_sem, h2, shapes_solid.r]
  rw [if_neg (by simp)]
  refine PureC.is (pure_of hm hf (Nat.le_of_ble_eq_true rfl) ?_) rfl
  unfold shapes_solid.c
  simp [go_sem, Mesh.enc, Mesh.cs]
  refine ACall_is (hfit m.verts hml) ?_
  simp [go_sem, h1]
  refine ACall_is (hcv l hl) ?_
  simp [go_sem, h2, shapes_solid.r, mesV, Mesh.enc, Mesh.cs, vsV, tsV]

set_option maxHeartbeats 8000000 in
theorem shapes_Prism_ok {f fl fb fs : FuncId} (hf : FnOk P f (shapes_Prism.c fl fb fs) shapes_Prism.r shapes_Prism.n) (hlev : LevelC P fl) (hbot : BottomC P fb) (hsol : SolidC P fs) : PrismC P f := by
  intro l z h hl hz hh
  have hz := inI_iff.1 hz
  have hh := inI_iff.1 hh
  by_cases h1 : l.length < 3 ∨ 64 < l.length ∨ h < 1
  · have hp : prismV l z h = mesV noMesh 1 := by rw [prismV, if_pos h1]
    rw [hp]
    refine CallIs.res (r := .t [.a [.nil, .nil], .i .i64 1]) ?_ (noMesh_le 1)
    refine PureC.is (pure_of hm hf (Nat.le_of_ble_eq_true rfl) ?_) rfl
    unfold shapes_Prism.c
    by_cases h2 : (l.length : Int) < 3
    · simp [go_sem, psV, h2, shapes_Prism.r]
    · by_cases h3 : (64 : Int) < l.length
      · simp [go_sem, psV, h2, h3, shapes_Prism.r]
      · have h4 : h < 1 := by omega
        simp [go_sem, psV, h2, h3, h4, shapes_Prism.r]
  have h2 : ¬ (l.length : Int) < 3 := by omega
  have h3 : ¬ (64 : Int) < l.length := by omega
  have h4 : ¬ h < 1 := by omega
  have hp : prismV l z h = solidV l (prismMesh l z h) := by rw [prismV, if_neg h1]
  rw [hp]
  by_cases h5 : 131072 < h ∨ z < -131072 ∨ 131072 < z
  · have hp : solidV l (prismMesh l z h) = mesV noMesh 8 := by
      have : vsOk (prismMesh l z h).verts = false := by
        cases l with
        | nil => simp at h2
        | cons p r =>
          rw [Bool.eq_false_iff]
          intro hv
          simp only [prismMesh, vsOk, levelVs, List.map_cons, List.cons_append, List.all_cons, List.all_append, Bool.and_eq_true] at hv
          have a1 := V3.valid_iff.1 hv.1
          have a2 := V3.valid_iff.1 hv.2.2.1
          simp only at a1 a2
          omega
      rw [solidV, if_pos this]
    rw [hp]
    refine CallIs.res (r := .t [.a [.nil, .nil], .i .i64 8]) ?_ (noMesh_le 8)
    refine PureC.is (pure_of hm hf (Nat.le_of_ble_eq_true rfl) ?_) rfl
    unfold shapes_Prism.c
    by_cases h6 : 131072 < h
    · simp [go_sem, psV, h2, h3, h4, h6, shapes_Prism.r]
    · by_cases h7 : z < -131072
      · simp [go_sem, psV, h2, h3, h4, h6, h7, shapes_Prism.r]
      · have h8 : 131072 < z := by omega
        simp [go_sem, psV, h2, h3, h4, h6, h7, h8, shapes_Prism.r]
  have h6 : ¬ 131072 < h := by omega
  have h7 : ¬ z < -131072 := by omega
  have h8 : ¬ 131072 < z := by omega
  obtain ⟨m, hm2⟩ : ∃ m, l.length = m + 2 := ⟨l.length - 2, by omega⟩
  refine PureC.is (pure_of hm hf (Nat.le_of_ble_eq_true rfl) ?_) rfl
  unfold shapes_Prism.c
  simp [go_sem, psV, h2, h3, h4, h6, h7, h8]
  refine ACall_new (hlev l z hl) rfl ?_
  simp [go_sem]
  simp (disch := omega) [go_sem, wrap64_small]
  refine ACall_new (hlev l (z + h) hl) rfl ?_
  simp [go_sem, levelVs_len, sh_vcs, take_lev]
  refine ⟨⟨by omega, by omega⟩, ?_⟩
  refine ACall_new (hbot.of hm2 (by omega)) rfl ?_
  simp [go_sem, sh_tcs]
  refine AS_loop (α := Nat) (fun k => k ≤ m)
    (fun k => ⟨[(0, psV l), (6, .p 0 1 0 0), (8, .i .i64 l.length), (9, .p 4 1 0 0), (10, .i .i64 ((k : Int) + 1))],
      [.arr 1 2 [[.nil, .nil]], .arr (l.length + 1 + 1) 3 (List.map V3.cs (levelVs l z) ++ List.map V3.cs (levelVs l (z + h))), .dead, .arr (m + 1 + k) 3 (List.map T3.cs (bottomTs m ++ topTs l.length k)), .arr 1 2 [[.own 1 (l.length + 1 + 1) 0 (l.length + l.length), .own 3 (m + 1 + k) 0 (m + k)]]]⟩)
    (fun k => m - k) 0 (Nat.zero_le _) ?_ ?_
  · simp [go_sem, psV, topTs]
    exact cl_v2
  · intro k hk
    by_cases hkm : k = m
    · subst hkm
      simp (disch := omega) [go_sem, wrap64_small, psV, show ¬ (k : Int) + 1 < (l.length : Int) - 1 by omega]
      refine AS_loop (α := Nat) (fun i => i ≤ l.length)
        (fun i => ⟨[(0, psV l), (6, .p 0 1 0 0), (8, .i .i64 l.length), (9, .p 4 1 0 0), (71, .i .i64 l.length), (72, .i .i64 i)],
          [.arr 1 2 [[.nil, .nil]], .arr (l.length + 1 + 1) 3 (List.map V3.cs (levelVs l z) ++ List.map V3.cs (levelVs l (z + h))), .dead, .arr (k + 1 + k + i) 3 (List.map T3.cs (bottomTs k ++ topTs l.length k ++ sideTs l.length i)), .arr 1 2 [[.own 1 (l.length + 1 + 1) 0 (l.length + l.length), .own 3 (k + 1 + k + i) 0 (k + k + 2 * i)]]]⟩)
        (fun i => l.length - i) 0 (Nat.zero_le _) ?_ ?_
      · simp [go_sem, psV, sideTs]
        exact ⟨cl_v2, cl_t2⟩
      · intro i hi
        by_cases hil : i = l.length
        · subst hil
          simp (disch := omega) [go_sem, wrap64_small, psV]
          have hk2 : l.length - 2 = k := by omega
          refine ACall_frz (vs := [psV l, (prismMesh l z h).enc]) ?_ (hsol l (prismMesh l z h) hl (by simp [prismMesh, levelVs]; omega)) ?_
          · have q1 : List.take (l.length + l.length) (List.map V3.cs (levelVs l z) ++ List.map V3.cs (levelVs l (z + h))) = List.map V3.cs (levelVs l z) ++ List.map V3.cs (levelVs l (z + h)) :=
              List.take_of_length_le (by simp [levelVs_len])
            have q2 : List.take (k + k + 2 * l.length) (List.map T3.cs (bottomTs k) ++ (List.map T3.cs (topTs l.length k) ++ List.map T3.cs (sideTs l.length l.length))) = List.map T3.cs (bottomTs k) ++ (List.map T3.cs (topTs l.length k) ++ List.map T3.cs (sideTs l.length l.length)) :=
              List.take_of_length_le (by simp [bottomTs_len, topTs_len, sideTs_len]; omega)
            have q3 : k + k + 2 * l.length ≤ k + (k + 2 * l.length) := by omega
            simp [go_sem, frzAll, frz, frz0, psV, prismMesh, Mesh.enc, Mesh.cs, vsV, tsV, hk2, q1, q2, q3, levelVs_len, bottomTs_len, topTs_len, sideTs_len, or_imp, forall_and, vcs_isD, tcs_isD]
          · unfold solidV
            split
            · simp [go_sem, shapes_Prism.r, mesV, noMesh, Mesh.enc, Mesh.cs, vsV, tsV]
            · split <;> simp [go_sem, shapes_Prism.r, mesV, noMesh, Mesh.enc, Mesh.cs, vsV, tsV]
        · have hne : ¬ l = [] := by rintro rfl; simp at hm2
          have hj : ((i : Int) + 1).tmod (l.length : Int) = (((i + 1) % l.length : Nat) : Int) := by
            rw [Int.tmod_eq_emod_of_nonneg (by omega)]; simp
          have hjl : (i + 1) % l.length < l.length := Nat.mod_lt _ (by omega)
          have hside : sideT l.length i = [⟨i, ((i + 1) % l.length : Nat), (l.length : Int) + ((i + 1) % l.length : Nat)⟩, ⟨i, (l.length : Int) + ((i + 1) % l.length : Nat), (l.length : Int) + i⟩] := rfl
          generalize (i + 1) % l.length = j at hj hjl hside
          simp (disch := omega) [go_sem, wrap64_small, psV, show (i : Int) < (l.length : Int) by omega, hne, hj]
          have e1 := bottomTs_len k
          have e2 := topTs_len l.length k
          have e3 := sideTs_len l.length i
          refine ⟨⟨by omega, by omega, by omega⟩, i + 1, by omega, by omega, by omega, cl_v2, ⟨⟨by omega, ?_⟩, cl_t3⟩, by omega, by omega⟩
          rw [List.take_of_length_le (by simp; omega), sideTs_succ, hside]
          simp [T3.cs]
    · simp (disch := omega) [go_sem, wrap64_small, psV, show (k : Int) + 1 < (l.length : Int) - 1 by omega]
      have hlen : (bottomTs m).length = m := bottomTs_len m
      have hlen2 : (topTs l.length k).length = k := topTs_len _ k
      refine ⟨⟨by omega, by omega, by omega⟩, k + 1, by omega, by omega, by omega, cl_v2, ⟨⟨by omega, ?_⟩, cl_t2⟩, by omega, by omega⟩
      rw [List.take_of_length_le (by simp [hlen, hlen2]), topTs_succ]
      simp [topT, T3.cs]
end
end Go.Abs
set_option linter.unusedVariables false
set_option linter.unusedSimpArgs false
namespace Go.Abs

def nx (n i : Nat) : Nat := if i + 1 = n then 0 else i + 1
theorem nx_mod {n i : Nat} (h : i < n) : (i + 1) % n = nx n i := by
  unfold nx
  split
  · rename_i hh; rw [hh, Nat.mod_self]
  · exact Nat.mod_eq_of_lt (by omega)
def sideA (n i : Nat) : T3 := ⟨i, (nx n i : Nat), (n : Int) + (nx n i : Nat)⟩
def sideB (n i : Nat) : T3 := ⟨i, (n : Int) + (nx n i : Nat), (n : Int) + i⟩
theorem side_two {n i : Nat} (h : i < n) : sideT n i = [sideA n i, sideB n i] := by
  unfold sideT sideA sideB
  rw [nx_mod h]
theorem side_get {n : Nat} : ∀ m, m ≤ n → ∀ q, q < 2 * m → (sideTs n m)[q]? = some (if q % 2 = 0 then sideA n (q / 2) else sideB n (q / 2))
  | 0, _, q, h => by omega
  | m + 1, hm, q, h => by
    rw [sideTs_succ, side_two (by omega)]
    have hl : (sideTs n m).length = 2 * m := sideTs_len n m
    by_cases hq : q < 2 * m
    · rw [List.getElem?_append_left (by omega)]
      exact side_get m (by omega) q hq
    · rw [List.getElem?_append_right (by omega), hl]
      by_cases he : q = 2 * m
      · subst he
        rw [Nat.sub_self, if_pos (by omega), show 2 * m / 2 = m by omega]; rfl
      · rw [show q - 2 * m = 1 by omega, if_neg (by omega), show q / 2 = m by omega]; rfl
def prT (n : Nat) : List T3 := bottomTs (n - 2) ++ topTs n (n - 2) ++ sideTs n n
theorem prT_len {n : Nat} (h : 3 ≤ n) : (prT n).length = 4 * n - 4 := by
  unfold prT
  rw [List.length_append, List.length_append, bottomTs_len, topTs_len, sideTs_len]; omega
theorem tAt_of {T : List T3} {i : Nat} {t : T3} (h : T[i]? = some t) : tAt T i = t := by unfold tAt; rw [h]; rfl
theorem pr_b {n k : Nat} (h : k < n - 2) : tAt (prT n) k = bottomT k := by
  refine tAt_of ?_
  unfold prT
  rw [List.append_assoc, List.getElem?_append_left (by rw [bottomTs_len]; exact h)]
  unfold bottomTs
  rw [List.getElem?_map, List.getElem?_range h]; rfl
theorem pr_t {n k : Nat} (h : k < n - 2) : tAt (prT n) (n - 2 + k) = topT n k := by
  refine tAt_of ?_
  unfold prT
  rw [List.append_assoc, List.getElem?_append_right (by rw [bottomTs_len]; omega), bottomTs_len, show n - 2 + k - (n - 2) = k by omega, List.getElem?_append_left (by rw [topTs_len]; exact h)]
  unfold topTs
  rw [List.getElem?_map, List.getElem?_range h]; rfl
theorem pr_s {n q : Nat} (h : q < 2 * n) : tAt (prT n) (2 * (n - 2) + q) = if q % 2 = 0 then sideA n (q / 2) else sideB n (q / 2) := by
  refine tAt_of ?_
  unfold prT
  have hl : (bottomTs (n - 2) ++ topTs n (n - 2)).length = 2 * (n - 2) := by rw [List.length_append, bottomTs_len, topTs_len]; omega
  rw [List.getElem?_append_right (by omega), hl, show 2 * (n - 2) + q - 2 * (n - 2) = q by omega]
  exact side_get n (Nat.le_refl _) q h
theorem pr_A {n i : Nat} (h : i < n) : tAt (prT n) (2 * (n - 2) + 2 * i) = sideA n i := by
  rw [pr_s (by omega), if_pos (by omega), show 2 * i / 2 = i by omega]
theorem pr_B {n i : Nat} (h : i < n) : tAt (prT n) (2 * (n - 2) + (2 * i + 1)) = sideB n i := by
  rw [pr_s (by omega), if_neg (by omega), show (2 * i + 1) / 2 = i by omega]
/-- Where a triangle stands. -/
theorem pr_cases {n p : Nat} (h3 : 3 ≤ n) (h : p < (prT n).length) : (∃ k, k < n - 2 ∧ k = p) ∨ (∃ k, k < n - 2 ∧ p = n - 2 + k) ∨ (∃ i, i < n ∧ p = 2 * (n - 2) + 2 * i) ∨ (∃ i, i < n ∧ p = 2 * (n - 2) + (2 * i + 1)) := by
  rw [prT_len h3] at h
  by_cases h1 : p < n - 2
  · exact .inl ⟨p, h1, rfl⟩
  by_cases h2 : p < 2 * (n - 2)
  · exact .inr (.inl ⟨p - (n - 2), by omega, by omega⟩)
  by_cases h4 : p % 2 = 0
  · exact .inr (.inr (.inl ⟨(p - 2 * (n - 2)) / 2, by omega, by omega⟩))
  · exact .inr (.inr (.inr ⟨(p - 2 * (n - 2)) / 2, by omega, by omega⟩))
theorem flat_b (k : Nat) : (bottomT k).a ≠ (bottomT k).b ∧ (bottomT k).b ≠ (bottomT k).c ∧ (bottomT k).c ≠ (bottomT k).a := by unfold bottomT; simp only; omega
theorem flat_t (n k : Nat) : (topT n k).a ≠ (topT n k).b ∧ (topT n k).b ≠ (topT n k).c ∧ (topT n k).c ≠ (topT n k).a := by unfold topT; simp only; omega
theorem nx_ne {n i : Nat} (h3 : 3 ≤ n) (h : i < n) : nx n i ≠ i ∧ nx n i < n := by unfold nx; split <;> omega
theorem flat_A {n i : Nat} (h3 : 3 ≤ n) (h : i < n) : (sideA n i).a ≠ (sideA n i).b ∧ (sideA n i).b ≠ (sideA n i).c ∧ (sideA n i).c ≠ (sideA n i).a := by
  have := nx_ne h3 h
  unfold sideA; simp only; omega
theorem flat_B {n i : Nat} (h3 : 3 ≤ n) (h : i < n) : (sideB n i).a ≠ (sideB n i).b ∧ (sideB n i).b ≠ (sideB n i).c ∧ (sideB n i).c ≠ (sideB n i).a := by
  have := nx_ne h3 h
  unfold sideB; simp only; omega
/-- Which triangle uses an edge. -/
def ownP (n : Nat) (e : P2) : Nat :=
  if e.x < n ∧ e.y < n then
    (if e.x = 0 ∧ 2 ≤ e.y then (e.y - 2).toNat
    else if e.y = 0 ∧ 1 ≤ e.x ∧ e.x + 2 ≤ n then (e.x - 1).toNat
    else if e.x = e.y + 1 then (e.x - 2).toNat
    else 2 * (n - 2) + 2 * e.x.toNat)
  else if (n : Int) ≤ e.x ∧ (n : Int) ≤ e.y then
    (if e.x = n ∧ e.y + 2 ≤ 2 * n then n - 2 + (e.y - n - 1).toNat
    else if e.y = n ∧ n + 2 ≤ e.x then n - 2 + (e.x - n - 2).toNat
    else if e.y = e.x + 1 then n - 2 + (e.x - n - 1).toNat
    else 2 * (n - 2) + (2 * (e.y - n).toNat + 1))
  else if e.x < n then
    (if e.y = e.x + n then 2 * (n - 2) + 2 * (if e.x = 0 then n - 1 else (e.x - 1).toNat) else 2 * (n - 2) + (2 * e.x.toNat + 1))
  else
    (if e.x = e.y + n then 2 * (n - 2) + (2 * e.y.toNat + 1) else 2 * (n - 2) + 2 * e.y.toNat)
theorem own_b {n k : Nat} (hk : k < n - 2) : ownP n ⟨0, (k : Int) + 2⟩ = k ∧ ownP n ⟨(k : Int) + 2, (k : Int) + 1⟩ = k ∧ ownP n ⟨(k : Int) + 1, 0⟩ = k := by
  refine ⟨?_, ?_, ?_⟩ <;> unfold ownP <;> dsimp only
  · rw [if_pos (by omega), if_pos (by omega)]; omega
  · rw [if_pos (by omega), if_neg (by omega), if_neg (by omega), if_pos (by omega)]; omega
  · rw [if_pos (by omega), if_neg (by omega), if_pos (by omega)]; omega
theorem own_t {n k : Nat} (hk : k < n - 2) : ownP n ⟨n, (n : Int) + (k + 1)⟩ = n - 2 + k ∧ ownP n ⟨(n : Int) + (k + 1), (n : Int) + (k + 1) + 1⟩ = n - 2 + k ∧ ownP n ⟨(n : Int) + (k + 1) + 1, n⟩ = n - 2 + k := by
  refine ⟨?_, ?_, ?_⟩ <;> unfold ownP <;> dsimp only
  · rw [if_neg (by omega), if_pos (by omega), if_pos (by omega)]; omega
  · rw [if_neg (by omega), if_pos (by omega), if_neg (by omega), if_neg (by omega), if_pos (by omega)]; omega
  · rw [if_neg (by omega), if_pos (by omega), if_neg (by omega), if_pos (by omega)]; omega
theorem own_A {n i : Nat} (h3 : 3 ≤ n) (hi : i < n) : ownP n ⟨i, (nx n i : Nat)⟩ = 2 * (n - 2) + 2 * i ∧ ownP n ⟨(nx n i : Nat), (n : Int) + (nx n i : Nat)⟩ = 2 * (n - 2) + 2 * i ∧ ownP n ⟨(n : Int) + (nx n i : Nat), i⟩ = 2 * (n - 2) + 2 * i := by
  by_cases hh : i + 1 = n
  · have hx : nx n i = 0 := by unfold nx; rw [if_pos hh]
    rw [hx]
    refine ⟨?_, ?_, ?_⟩ <;> unfold ownP <;> dsimp only
    · rw [if_pos (by omega), if_neg (by omega), if_neg (by omega), if_neg (by omega)]; omega
    · rw [if_neg (by omega), if_neg (by omega), if_pos (by omega), if_pos (by omega), if_pos (by omega)]; omega
    · rw [if_neg (by omega), if_neg (by omega), if_neg (by omega), if_neg (by omega)]; omega
  · have hx : nx n i = i + 1 := by unfold nx; rw [if_neg hh]
    rw [hx]
    refine ⟨?_, ?_, ?_⟩ <;> unfold ownP <;> dsimp only
    · rw [if_pos (by omega), if_neg (by omega), if_neg (by omega), if_neg (by omega)]; omega
    · rw [if_neg (by omega), if_neg (by omega), if_pos (by omega), if_pos (by omega), if_neg (by omega)]; omega
    · rw [if_neg (by omega), if_neg (by omega), if_neg (by omega), if_neg (by omega)]; omega
theorem own_B {n i : Nat} (h3 : 3 ≤ n) (hi : i < n) : ownP n ⟨i, (n : Int) + (nx n i : Nat)⟩ = 2 * (n - 2) + (2 * i + 1) ∧ ownP n ⟨(n : Int) + (nx n i : Nat), (n : Int) + i⟩ = 2 * (n - 2) + (2 * i + 1) ∧ ownP n ⟨(n : Int) + i, i⟩ = 2 * (n - 2) + (2 * i + 1) := by
  by_cases hh : i + 1 = n
  · have hx : nx n i = 0 := by unfold nx; rw [if_pos hh]
    rw [hx]
    refine ⟨?_, ?_, ?_⟩ <;> unfold ownP <;> dsimp only
    · rw [if_neg (by omega), if_neg (by omega), if_pos (by omega), if_neg (by omega)]; omega
    · rw [if_neg (by omega), if_pos (by omega), if_neg (by omega), if_neg (by omega), if_neg (by omega)]; omega
    · rw [if_neg (by omega), if_neg (by omega), if_neg (by omega), if_pos (by omega)]; omega
  · have hx : nx n i = i + 1 := by unfold nx; rw [if_neg hh]
    rw [hx]
    refine ⟨?_, ?_, ?_⟩ <;> unfold ownP <;> dsimp only
    · rw [if_neg (by omega), if_neg (by omega), if_pos (by omega), if_neg (by omega)]; omega
    · rw [if_neg (by omega), if_pos (by omega), if_neg (by omega), if_neg (by omega), if_neg (by omega)]; omega
    · rw [if_neg (by omega), if_neg (by omega), if_neg (by omega), if_pos (by omega)]; omega
theorem pr_own {n : Nat} (h3 : 3 ≤ n) : ∀ p, p < (prT n).length → ∀ e ∈ edgesOf (tAt (prT n) p), ownP n e = p := by
  intro p hp e he
  rcases pr_cases h3 hp with ⟨k, hk, rfl⟩ | ⟨k, hk, rfl⟩ | ⟨i, hi, rfl⟩ | ⟨i, hi, rfl⟩
  · rw [pr_b hk, mem_edges3 (flat_b k)] at he
    obtain ⟨h1, h2, h4⟩ := own_b hk
    rcases he with rfl | rfl | rfl
    · exact h1
    · exact h2
    · exact h4
  · rw [pr_t hk, mem_edges3 (flat_t n k)] at he
    obtain ⟨h1, h2, h4⟩ := own_t hk
    rcases he with rfl | rfl | rfl
    · exact h1
    · exact h2
    · exact h4
  · rw [pr_A hi, mem_edges3 (flat_A h3 hi)] at he
    obtain ⟨h1, h2, h4⟩ := own_A h3 hi
    rcases he with rfl | rfl | rfl
    · exact h1
    · exact h2
    · exact h4
  · rw [pr_B hi, mem_edges3 (flat_B h3 hi)] at he
    obtain ⟨h1, h2, h4⟩ := own_B h3 hi
    rcases he with rfl | rfl | rfl
    · exact h1
    · exact h2
    · exact h4
def Has (T : List T3) (e : P2) : Prop := ∃ q, q < T.length ∧ e ∈ edgesOf (tAt T q)
section
variable {n : Nat} (h3 : 3 ≤ n)
include h3
theorem has_b {k : Nat} (hk : k < n - 2) : Has (prT n) ⟨0, (k : Int) + 2⟩ ∧ Has (prT n) ⟨(k : Int) + 2, (k : Int) + 1⟩ ∧ Has (prT n) ⟨(k : Int) + 1, 0⟩ := by
  have hl : k < (prT n).length := by rw [prT_len h3]; omega
  have hm := fun e => mem_edges3 (flat_b k) (e := e)
  rw [← pr_b hk] at hm
  exact ⟨⟨k, hl, (hm _).2 (.inl (by rw [pr_b hk]; rfl))⟩, ⟨k, hl, (hm _).2 (.inr (.inl (by rw [pr_b hk]; rfl)))⟩, ⟨k, hl, (hm _).2 (.inr (.inr (by rw [pr_b hk]; rfl)))⟩⟩
theorem has_t {k : Nat} (hk : k < n - 2) : Has (prT n) ⟨n, (n : Int) + (k + 1)⟩ ∧ Has (prT n) ⟨(n : Int) + (k + 1), (n : Int) + (k + 1) + 1⟩ ∧ Has (prT n) ⟨(n : Int) + (k + 1) + 1, n⟩ := by
  have hl : n - 2 + k < (prT n).length := by rw [prT_len h3]; omega
  have hm := fun e => mem_edges3 (flat_t n k) (e := e)
  rw [← pr_t hk] at hm
  exact ⟨⟨_, hl, (hm _).2 (.inl (by rw [pr_t hk]; rfl))⟩, ⟨_, hl, (hm _).2 (.inr (.inl (by rw [pr_t hk]; rfl)))⟩, ⟨_, hl, (hm _).2 (.inr (.inr (by rw [pr_t hk]; rfl)))⟩⟩
theorem has_A {i : Nat} (hi : i < n) : Has (prT n) ⟨i, (nx n i : Nat)⟩ ∧ Has (prT n) ⟨(nx n i : Nat), (n : Int) + (nx n i : Nat)⟩ ∧ Has (prT n) ⟨(n : Int) + (nx n i : Nat), i⟩ := by
  have hl : 2 * (n - 2) + 2 * i < (prT n).length := by rw [prT_len h3]; omega
  have hm := fun e => mem_edges3 (flat_A h3 hi) (e := e)
  rw [← pr_A hi] at hm
  exact ⟨⟨_, hl, (hm _).2 (.inl (by rw [pr_A hi]; rfl))⟩, ⟨_, hl, (hm _).2 (.inr (.inl (by rw [pr_A hi]; rfl)))⟩, ⟨_, hl, (hm _).2 (.inr (.inr (by rw [pr_A hi]; rfl)))⟩⟩
theorem has_B {i : Nat} (hi : i < n) : Has (prT n) ⟨i, (n : Int) + (nx n i : Nat)⟩ ∧ Has (prT n) ⟨(n : Int) + (nx n i : Nat), (n : Int) + i⟩ ∧ Has (prT n) ⟨(n : Int) + i, i⟩ := by
  have hl : 2 * (n - 2) + (2 * i + 1) < (prT n).length := by rw [prT_len h3]; omega
  have hm := fun e => mem_edges3 (flat_B h3 hi) (e := e)
  rw [← pr_B hi] at hm
  exact ⟨⟨_, hl, (hm _).2 (.inl (by rw [pr_B hi]; rfl))⟩, ⟨_, hl, (hm _).2 (.inr (.inl (by rw [pr_B hi]; rfl)))⟩, ⟨_, hl, (hm _).2 (.inr (.inr (by rw [pr_B hi]; rfl)))⟩⟩
omit h3 in
theorem has_eq {T : List T3} {a b : P2} (h : Has T a) (hx : a.x = b.x) (hy : a.y = b.y) : Has T b := by
  have : a = b := p2_ext hx hy
  rw [← this]; exact h
theorem pr_clo : ∀ p, p < (prT n).length → ∀ e ∈ edgesOf (tAt (prT n) p), Has (prT n) e.rev := by
  intro p hp e he
  rcases pr_cases h3 hp with ⟨k, hk, rfl⟩ | ⟨k, hk, rfl⟩ | ⟨i, hi, rfl⟩ | ⟨i, hi, rfl⟩
  · rw [pr_b hk, mem_edges3 (flat_b k)] at he
    rcases he with rfl | rfl | rfl
    · by_cases hh : k + 3 = n
      · exact has_eq (has_A h3 (i := n - 1) (by omega)).1 (by simp only [bottomT, P2.rev]; omega) (by simp only [bottomT, P2.rev, nx]; split <;> omega)
      · exact has_eq (has_b h3 (k := k + 1) (by omega)).2.2 (by simp only [bottomT, P2.rev]; omega) rfl
    · exact has_eq (has_A h3 (i := k + 1) (by omega)).1 (by simp only [bottomT, P2.rev]; omega) (by simp only [bottomT, P2.rev, nx]; split <;> omega)
    · by_cases hh : k = 0
      · exact has_eq (has_A h3 (i := 0) (by omega)).1 rfl (by simp only [bottomT, P2.rev, nx]; split <;> omega)
      · exact has_eq (has_b h3 (k := k - 1) (by omega)).1 rfl (by simp only [bottomT, P2.rev]; omega)
  · rw [pr_t hk, mem_edges3 (flat_t n k)] at he
    rcases he with rfl | rfl | rfl
    · by_cases hh : k = 0
      · exact has_eq (has_B h3 (i := 0) (by omega)).2.1 (by simp only [topT, P2.rev, nx]; split <;> omega) (by simp only [topT, P2.rev]; omega)
      · exact has_eq (has_t h3 (k := k - 1) (by omega)).2.2 (by simp only [topT, P2.rev]; omega) rfl
    · exact has_eq (has_B h3 (i := k + 1) (by omega)).2.1 (by simp only [topT, P2.rev, nx]; split <;> omega) (by simp only [topT, P2.rev]; omega)
    · by_cases hh : k + 3 = n
      · exact has_eq (has_B h3 (i := n - 1) (by omega)).2.1 (by simp only [topT, P2.rev, nx]; split <;> omega) (by simp only [topT, P2.rev]; omega)
      · exact has_eq (has_t h3 (k := k + 1) (by omega)).1 rfl (by simp only [topT, P2.rev]; omega)
  · rw [pr_A hi, mem_edges3 (flat_A h3 hi)] at he
    rcases he with rfl | rfl | rfl
    · by_cases hh : i + 1 = n
      · exact has_eq (has_b h3 (k := n - 3) (by omega)).1 (by simp only [sideA, P2.rev, nx]; split <;> omega) (by simp only [sideA, P2.rev]; omega)
      · by_cases h0 : i = 0
        · exact has_eq (has_b h3 (k := 0) (by omega)).2.2 (by simp only [sideA, P2.rev, nx]; split <;> omega) (by simp only [sideA, P2.rev]; omega)
        · exact has_eq (has_b h3 (k := i - 1) (by omega)).2.1 (by simp only [sideA, P2.rev, nx]; split <;> omega) (by simp only [sideA, P2.rev]; omega)
    · exact has_eq (has_B h3 (nx_ne h3 hi).2).2.2 rfl rfl
    · exact has_eq (has_B h3 hi).1 rfl rfl
  · rw [pr_B hi, mem_edges3 (flat_B h3 hi)] at he
    rcases he with rfl | rfl | rfl
    · exact has_eq (has_A h3 hi).2.2 rfl rfl
    · by_cases hh : i + 1 = n
      · exact has_eq (has_t h3 (k := n - 3) (by omega)).2.2 (by simp only [sideB, P2.rev]; omega) (by simp only [sideB, P2.rev, nx]; split <;> omega)
      · by_cases h0 : i = 0
        · exact has_eq (has_t h3 (k := 0) (by omega)).1 (by simp only [sideB, P2.rev]; omega) (by simp only [sideB, P2.rev, nx]; split <;> omega)
        · exact has_eq (has_t h3 (k := i - 1) (by omega)).2.1 (by simp only [sideB, P2.rev]; omega) (by simp only [sideB, P2.rev, nx]; split <;> omega)
    · by_cases h0 : i = 0
      · exact has_eq (has_A h3 (i := n - 1) (by omega)).2.1 (by simp only [sideB, P2.rev, nx]; split <;> omega) (by simp only [sideB, P2.rev, nx]; split <;> omega)
      · exact has_eq (has_A h3 (i := i - 1) (by omega)).2.1 (by simp only [sideB, P2.rev, nx]; split <;> omega) (by simp only [sideB, P2.rev, nx]; split <;> omega)
omit h3 in
theorem adj_rev3 {T : List T3} {i j : Nat} (hi : i < T.length) (hj : j < T.length) {e : P2} (h1 : e ∈ edgesOf (tAt T i)) (h2 : e.rev ∈ edgesOf (tAt T j)) : adjI T i j :=
  adjI_of' hi hj h1 h2 (rev_und e).symm
theorem adj_AB {i : Nat} (hi : i < n) : adjI (prT n) (2 * (n - 2) + 2 * i) (2 * (n - 2) + (2 * i + 1)) := by
  have hl := prT_len h3
  refine adj_rev3 (by omega) (by omega) (e := ⟨(n : Int) + (nx n i : Nat), i⟩) ?_ ?_
  · rw [pr_A hi, mem_edges3 (flat_A h3 hi)]; exact .inr (.inr rfl)
  · rw [pr_B hi, mem_edges3 (flat_B h3 hi)]; exact .inl rfl
theorem adj_BA {i : Nat} (hi : i < n) : adjI (prT n) (2 * (n - 2) + 2 * i) (2 * (n - 2) + (2 * nx n i + 1)) := by
  have hl := prT_len h3
  have hx := (nx_ne h3 hi).2
  refine adj_rev3 (by omega) (by omega) (e := ⟨(nx n i : Nat), (n : Int) + (nx n i : Nat)⟩) ?_ ?_
  · rw [pr_A hi, mem_edges3 (flat_A h3 hi)]; exact .inr (.inl rfl)
  · rw [pr_B hx, mem_edges3 (flat_B h3 hx)]; exact .inr (.inr rfl)
theorem adj_bA {k : Nat} (hk : k < n - 2) : adjI (prT n) k (2 * (n - 2) + 2 * (k + 1)) := by
  have hl := prT_len h3
  refine adj_rev3 (by omega) (by omega) (e := ⟨(k : Int) + 2, (k : Int) + 1⟩) ?_ ?_
  · rw [pr_b hk, mem_edges3 (flat_b k)]; exact .inr (.inl rfl)
  · rw [pr_A (by omega), mem_edges3 (flat_A h3 (by omega))]
    refine .inl (p2_ext ?_ ?_)
    · simp only [sideA, P2.rev]; omega
    · simp only [sideA, P2.rev, nx]; split <;> omega
theorem adj_tB {k : Nat} (hk : k < n - 2) : adjI (prT n) (n - 2 + k) (2 * (n - 2) + (2 * (k + 1) + 1)) := by
  have hl := prT_len h3
  refine adj_rev3 (by omega) (by omega) (e := ⟨(n : Int) + (k + 1), (n : Int) + (k + 1) + 1⟩) ?_ ?_
  · rw [pr_t hk, mem_edges3 (flat_t n k)]; exact .inr (.inl rfl)
  · rw [pr_B (by omega), mem_edges3 (flat_B h3 (by omega))]
    refine .inr (.inl (p2_ext ?_ ?_))
    · simp only [sideB, P2.rev, nx]; split <;> omega
    · simp only [sideB, P2.rev]; omega
theorem conn_A : ∀ i, i < n → Conn (prT n) (2 * (n - 2)) (2 * (n - 2) + 2 * i)
  | 0, _ => .refl (by rw [prT_len h3]; omega)
  | i + 1, hi => by
    have h1 := conn_A i (by omega)
    have h2 := adj_BA h3 (i := i) (by omega)
    have hx : nx n i = i + 1 := by unfold nx; split <;> omega
    rw [hx] at h2
    exact (h1.tail h2).tail (adj_AB h3 hi).symm
theorem pr_one : ∀ p, p < (prT n).length → Conn (prT n) 0 p := by
  have h0 : Conn (prT n) 0 (2 * (n - 2)) := by
    have h1 : Conn (prT n) 0 (2 * (n - 2) + 2 * (0 + 1)) := .tail (.refl (by rw [prT_len h3]; omega)) (adj_bA h3 (k := 0) (by omega))
    exact h1.trans (conn_A h3 1 (by omega)).symm
  intro p hp
  rcases pr_cases h3 hp with ⟨k, hk, rfl⟩ | ⟨k, hk, rfl⟩ | ⟨i, hi, rfl⟩ | ⟨i, hi, rfl⟩
  · exact (h0.trans (conn_A h3 (k + 1) (by omega))).tail (adj_bA h3 hk).symm
  · exact ((h0.trans (conn_A h3 (k + 1) (by omega))).tail (adj_AB h3 (by omega))).tail (adj_tB h3 hk).symm
  · exact h0.trans (conn_A h3 i hi)
  · exact (h0.trans (conn_A h3 i hi)).tail (adj_AB h3 hi)
theorem pr_each {Q : T3 → Prop} (hb : ∀ k, k < n - 2 → Q (bottomT k)) (ht : ∀ k, k < n - 2 → Q (topT n k)) (hA : ∀ i, i < n → Q (sideA n i)) (hB : ∀ i, i < n → Q (sideB n i)) : ∀ t ∈ prT n, Q t := by
  intro t ht0
  obtain ⟨p, hp⟩ := List.getElem?_of_mem ht0
  have hl := (List.getElem?_eq_some_iff.1 hp).1
  rw [← tAt_of hp]
  rcases pr_cases h3 hl with ⟨k, hk, rfl⟩ | ⟨k, hk, rfl⟩ | ⟨i, hi, rfl⟩ | ⟨i, hi, rfl⟩
  · rw [pr_b hk]; exact hb k hk
  · rw [pr_t hk]; exact ht k hk
  · rw [pr_A hi]; exact hA i hi
  · rw [pr_B hi]; exact hB i hi
theorem pr_sphere : Sphere (prT n) (2 * n) where
  pos := by rw [prT_len h3]; omega
  own := ⟨ownP n, pr_own h3⟩
  clo := pr_clo h3
  one := pr_one h3
  ok := by
    simp only [tsOk, List.all_eq_true]
    refine pr_each h3 (fun k hk => ?_) (fun k hk => ?_) (fun i hi => ?_) (fun i hi => ?_)
    · rw [T3.ok_iff]; simp only [bottomT]; omega
    · rw [T3.ok_iff]; simp only [topT]; omega
    · have := nx_ne h3 hi; rw [T3.ok_iff]; simp only [sideA]; omega
    · have := nx_ne h3 hi; rw [T3.ok_iff]; simp only [sideB]; omega
  flat := pr_each h3 (fun k _ => flat_b k) (fun k _ => flat_t n k) (fun i hi => flat_A h3 hi) (fun i hi => flat_B h3 hi)
  used := fun v hv => by
    have hl := prT_len h3
    have hmem : ∀ p, p < (prT n).length → tAt (prT n) p ∈ prT n := fun p hp => List.mem_of_getElem? (tAt_get hp)
    by_cases h : v < n
    · refine ⟨_, hmem (2 * (n - 2) + 2 * v) (by omega), ?_⟩
      rw [pr_A h]; exact .inl rfl
    · refine ⟨_, hmem (2 * (n - 2) + (2 * (v - n) + 1)) (by omega), ?_⟩
      rw [pr_B (by omega)]
      refine .inr (.inr ?_)
      simp only [sideB]; omega
  num := by rw [prT_len h3]; omega
end
end Go.Abs
set_option linter.unusedVariables false
set_option linter.unusedSimpArgs false
namespace Go.Abs

theorem CallIs.pure {P : Program} {f : FuncId} {vs : List V} {r : V} (h : CallIs P f vs r) : PureC P f vs (· = r) := h []
section
variable {P : Program} (hm : P.follows .mixedOrders = true)
include hm

end
end Go.Abs
set_option linter.unusedVariables false
set_option linter.unusedSimpArgs false
namespace Go.Abs

def flankT (n i : Nat) : T3 := ⟨i, ((i + 1) % n : Nat), n⟩
def flankTs (n i : Nat) : List T3 := (List.range i).map (flankT n)
def pyrMesh (l : List P2) (z : Int) (a : V3) : Mesh := ⟨levelVs l z ++ [a], bottomTs (l.length - 2) ++ flankTs l.length l.length⟩
def pyrV (l : List P2) (z : Int) (a : V3) : V := if l.length < 3 ∨ 64 < l.length ∨ a.z ≤ z then mesV noMesh 1 else solidV l (pyrMesh l z a)
def PyrC (P : Program) (f : FuncId) : Prop := ∀ (l : List P2) (z : Int) (a : V3), l.length ≤ 1000 → CallIs P f [psV l, .i .i64 z, a.enc] (pyrV l z a)
theorem flankTs_len (n i : Nat) : (flankTs n i).length = i := by simp [flankTs]
theorem flankTs_succ (n i : Nat) : flankTs n (i + 1) = flankTs n i ++ [flankT n i] := by simp [flankTs, List.range_succ]
theorem cl_v1c {A : List V3} {a : V3} {n : Nat} : ∀ el : List V, ((∃ b, b ∈ A ∧ b.cs = el) ∨ el = [.i .i64 a.x, .i .i64 a.y, .i .i64 a.z]) → ∀ x : V, x ∈ el → x.cl n = true := by
  rintro el (⟨b, _, rfl⟩ | rfl) x hx
  · exact of_eq_true (vcs_cl b n) x hx
  · exact of_eq_true (vcs_cl a n) x hx

theorem isD_i (k : IntKind) (n : Int) : (V.i k n).isD = true := rfl

section
variable {P : Program} (hm : P.follows .mixedOrders = true)
include hm

set_option maxHeartbeats 8000000 in
theorem shapes_Pyramid_ok {f fl fb fs : FuncId} (hf : FnOk P f (shapes_Pyramid.c fl fb fs) shapes_Pyramid.r shapes_Pyramid.n) (hlev : LevelC P fl) (hbot : BottomC P fb) (hsol : SolidC P fs) : PyrC P f := by
  intro l z a hl
  by_cases h1 : l.length < 3 ∨ 64 < l.length ∨ a.z ≤ z
  · have hp : pyrV l z a = mesV noMesh 1 := by rw [pyrV, if_pos h1]
    rw [hp]
    refine CallIs.res (r := .t [.a [.nil, .nil], .i .i64 1]) ?_ (noMesh_le 1)
    refine PureC.is (pure_of hm hf (Nat.le_of_ble_eq_true rfl) ?_) rfl
    unfold shapes_Pyramid.c
    by_cases h2 : (l.length : Int) < 3
    · simp [go_sem, psV, V3.enc, V3.cs, h2, shapes_Pyramid.r]
    · by_cases h3 : (64 : Int) < l.length
      · simp [go_sem, psV, V3.enc, V3.cs, h2, h3, shapes_Pyramid.r]
      · have h4 : a.z ≤ z := by omega
        simp [go_sem, psV, V3.enc, V3.cs, h2, h3, h4, shapes_Pyramid.r]
  have h2 : ¬ (l.length : Int) < 3 := by omega
  have h3 : ¬ (64 : Int) < l.length := by omega
  have h4 : ¬ a.z ≤ z := by omega
  have hp : pyrV l z a = solidV l (pyrMesh l z a) := by rw [pyrV, if_neg h1]
  rw [hp]
  obtain ⟨m, hm2⟩ : ∃ m, l.length = m + 2 := ⟨l.length - 2, by omega⟩
  refine PureC.is (pure_of hm hf (Nat.le_of_ble_eq_true rfl) ?_) rfl
  unfold shapes_Pyramid.c
  simp [go_sem, psV, V3.enc, V3.cs, h2, h3, h4]
  refine DCall_new (hlev l z hl) rfl ?_
  simp [go_sem, sh_vcs, take_lev, levelVs_len]
  refine ⟨⟨by omega, by omega⟩, ?_⟩
  refine DCall_new (hbot.of hm2 (by omega)) rfl ?_
  simp [go_sem, sh_tcs]
  refine AS_loop (α := Nat) (fun i => i ≤ l.length)
    (fun i => ⟨[(0, psV l), (6, .p 1 1 0 0), (8, .i .i64 l.length), (9, .p 4 1 0 0), (35, .i .i64 l.length), (36, .i .i64 i)],
      [.dead, .arr 1 2 [[.nil, .nil]], .arr (l.length + 1 + 1) 3 (List.map V3.cs (levelVs l z) ++ [[.i .i64 a.x, .i .i64 a.y, .i .i64 a.z]]), .arr (m + 1 + i) 3 (List.map T3.cs (bottomTs m ++ flankTs l.length i)), .arr 1 2 [[.own 2 (l.length + 1 + 1) 0 (l.length + 1), .own 3 (m + 1 + i) 0 (m + i)]]]⟩)
    (fun i => l.length - i) 0 (Nat.zero_le _) ?_ ?_
  · simp [go_sem, psV, flankTs]
    exact cl_v1c
  · intro i hi
    have e1 := bottomTs_len m
    have e2 := flankTs_len l.length i
    by_cases hil : i = l.length
    · subst hil
      simp (disch := omega) [go_sem, wrap64_small, psV]
      have hk2 : l.length - 2 = m := by omega
      have q1 : List.take (l.length + 1) (List.map V3.cs (levelVs l z) ++ [[.i .i64 a.x, .i .i64 a.y, .i .i64 a.z]]) = List.map V3.cs (levelVs l z) ++ [[.i .i64 a.x, .i .i64 a.y, .i .i64 a.z]] :=
        List.take_of_length_le (by simp [levelVs_len])
      have q2 : List.take (m + l.length) (List.map T3.cs (bottomTs m) ++ List.map T3.cs (flankTs l.length l.length)) = List.map T3.cs (bottomTs m) ++ List.map T3.cs (flankTs l.length l.length) :=
        List.take_of_length_le (by simp [e1, flankTs_len])
      refine ACall_frz (vs := [psV l, (pyrMesh l z a).enc]) ?_ (hsol l (pyrMesh l z a) hl (by simp [pyrMesh, levelVs]; omega)) ?_
      · simp [go_sem, frzAll, frz, frz0, psV, pyrMesh, Mesh.enc, Mesh.cs, vsV, tsV, hk2, q1, q2, levelVs_len, bottomTs_len, flankTs_len, or_imp, forall_and, vcs_isD, tcs_isD, isD_i, vcs]
      · unfold solidV
        split
        · simp [go_sem, shapes_Pyramid.r, mesV, noMesh, Mesh.enc, Mesh.cs, vsV, tsV]
        · split <;> simp [go_sem, shapes_Pyramid.r, mesV, noMesh, Mesh.enc, Mesh.cs, vsV, tsV]
    · have hne : ¬ l = [] := by rintro rfl; simp at hm2
      have hj : ((i : Int) + 1).tmod (l.length : Int) = (((i + 1) % l.length : Nat) : Int) := by
        rw [Int.tmod_eq_emod_of_nonneg (by omega)]; simp
      have hjl : (i + 1) % l.length < l.length := Nat.mod_lt _ (by omega)
      have hside : flankT l.length i = ⟨i, ((i + 1) % l.length : Nat), l.length⟩ := rfl
      generalize (i + 1) % l.length = j at hj hjl hside
      simp (disch := omega) [go_sem, wrap64_small, psV, show (i : Int) < (l.length : Int) by omega, hne, hj]
      refine ⟨⟨by omega, by omega, by omega⟩, i + 1, by omega, by omega, by omega, cl_v1c, ⟨⟨by omega, ?_⟩, cl_t2⟩, by omega, by omega⟩
      rw [List.take_of_length_le (by simp; omega), flankTs_succ, hside]
      simp [T3.cs]

end
end Go.Abs
