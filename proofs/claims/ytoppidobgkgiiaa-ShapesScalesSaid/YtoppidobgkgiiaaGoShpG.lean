/- What the reference's functions on bases do to values. -/
import Derived.Test.YtoppidobgkgiiaaGoShpF
set_option linter.unusedVariables false
set_option linter.unusedSimpArgs false
namespace Go.Abs

theorem CallIs.pure {P : Program} {f : FuncId} {vs : List V} {r : V} (h : CallIs P f vs r) : PureC P f vs (· = r) := h []
theorem cl_t1 {A : List T3} {n : Nat} : ∀ el : List V, (∃ a, a ∈ A ∧ a.cs = el) → ∀ x : V, x ∈ el → x.cl n = true := by
  rintro el ⟨a, _, rfl⟩ x hx; exact of_eq_true (tcs_cl a n) x hx
theorem take_levs (l : List P2) (a b : Int) : List.take (l.length + l.length) (List.map V3.cs (levelVs l a) ++ List.map V3.cs (levelVs l b)) = List.map V3.cs (levelVs l a) ++ List.map V3.cs (levelVs l b) :=
  List.take_of_length_le (by simp [levelVs_len])

def solidN (l : List P2) (m : Mesh) : V :=
  if vsOk m.verts = false then .t [.a [.nil, .nil], .i .i64 8] else if convexB l = false then .t [.a [.nil, .nil], .i .i64 1] else mesV m 0
theorem solidN_le (l : List P2) (m : Mesh) : Le (solidN l m) (solidV l m) := by
  unfold solidN solidV
  split
  · exact noMesh_le 8
  · split
    · exact noMesh_le 1
    · exact Le.refl _

section
variable {P : Program} (hm : P.follows .mixedOrders = true)
include hm

theorem ref13_Convex_ok {f ft : FuncId} (hf : FnOk P f (ref13_Convex.c ft) ref13_Convex.r ref13_Convex.n) (ht : Turn2C P ft) : ConvexC P f := by
  intro l hl
  refine PureC.is (pure_of hm hf (Nat.le_of_ble_eq_true rfl) ?_) rfl
  unfold ref13_Convex.c
  simp [go_sem, psV]
  refine AS_loop (α := Nat) (fun k => k ≤ l.length ∧ ∀ k', k' < k → ∀ i, i < l.length → convexAt l k' i = true)
    (fun k => ⟨[(0, psV l), (3, .i .i64 l.length), (4, .i .i64 k)], []⟩)
    (fun k => l.length - k) 0 ⟨Nat.zero_le _, by omega⟩ ?_ ?_
  · simp [go_sem, psV]
  · rintro k ⟨hk, hok⟩
    by_cases hlt : k < l.length
    case neg =>
      obtain rfl : k = l.length := by omega
      simp [go_sem, psV, ref13_Convex.r]
      simpa [convexB] using hok
    have hne : ¬ l = [] := by rintro rfl; simp at hlt
    have hj : ((k : Int) + 1).tmod (l.length : Int) = (((k + 1) % l.length : Nat) : Int) := by
      rw [Int.tmod_eq_emod_of_nonneg (by omega)]; simp
    have hjl : (k + 1) % l.length < l.length := Nat.mod_lt _ (by omega)
    have hat : ∀ i, convexAt l k i = (decide (i = k) || decide (i = (k + 1) % l.length) || decide (0 < turn2 (l.getD k ⟨0, 0⟩) (l.getD ((k + 1) % l.length) ⟨0, 0⟩) (l.getD i ⟨0, 0⟩))) := fun i => rfl
    generalize (k + 1) % l.length = j at hj hjl hat
    have hpd : l.getD k ⟨0, 0⟩ = l[k] := by simp [hlt]
    have hjd : l.getD j ⟨0, 0⟩ = l[j] := by simp [hjl]
    rw [hpd, hjd] at hat
    simp (disch := omega) [go_sem, psV, hlt, wrap64_small, hne, hj]
    refine AS_loop (α := Nat) (fun i => i ≤ l.length ∧ ∀ i', i' < i → convexAt l k i' = true)
      (fun i => ⟨[(0, psV l), (3, .i .i64 l.length), (4, .i .i64 k), (5, .i .i64 j), (6, .i .i64 i)], []⟩)
      (fun i => l.length - i) 0 ⟨Nat.zero_le _, by omega⟩ ?_ ?_
    · simp [go_sem, psV]
    · rintro i ⟨hi, hoki⟩
      by_cases hlti : i < l.length
      case neg =>
        obtain rfl : i = l.length := by omega
        simp (disch := omega) [go_sem, psV, wrap64_small]
        refine ⟨k + 1, ⟨by omega, fun k' hk' i' hi' => ?_⟩, by omega, by omega⟩
        by_cases h : k' = k
        · subst h; exact hoki i' hi'
        · exact hok k' (by omega) i' hi'
      have hqd : l.getD i ⟨0, 0⟩ = l[i] := by simp [hlti]
      have hnext : convexAt l k i = true → ∀ i', i' < i + 1 → convexAt l k i' = true := fun h i' hi' => by
        by_cases h' : i' = i
        · subst h'; exact h
        · exact hoki i' (by omega)
      by_cases hik : i = k
      · have hcv : convexAt l k i = true := by rw [hat]; simp [hik]
        have e1 : ((i : Int) != (k : Int)) = false := by simp [hik]
        simp (disch := omega) [go_sem, psV, wrap64_small, hlti, e1]
        exact ⟨i + 1, ⟨by omega, hnext hcv⟩, by omega, by omega⟩
      · have e1 : ((i : Int) != (k : Int)) = true := by simp; omega
        by_cases hij : i = j
        · have hcv : convexAt l k i = true := by rw [hat]; simp [hij]
          have e2 : ((i : Int) != (j : Int)) = false := by simp [hij]
          simp (disch := omega) [go_sem, psV, wrap64_small, hlti, e1, e2]
          exact ⟨i + 1, ⟨by omega, hnext hcv⟩, by omega, by omega⟩
        · have e2 : ((i : Int) != (j : Int)) = true := by simp; omega
          simp (disch := omega) [go_sem, psV, wrap64_small, hlti, hlt, hjl, pcs, e1, e2]
          refine DCall_is (ht l[k] l[j] l[i]) ?_
          by_cases hturn : 0 < turn2 l[k] l[j] l[i]
          · have hcv : convexAt l k i = true := by rw [hat, hqd]; simp [hturn]
            simp (disch := omega) [go_sem, psV, wrap64_small, show ¬ turn2 l[k] l[j] l[i] ≤ 0 by omega]
            exact ⟨i + 1, ⟨by omega, hnext hcv⟩, by omega, by omega⟩
          · simp (disch := omega) [go_sem, ref13_Convex.r, show turn2 l[k] l[j] l[i] ≤ 0 by omega]
            have hcf : convexAt l k i = false := by rw [hat, hqd]; simp [hik, hij, hturn]
            rw [Bool.eq_false_iff]
            intro hcv
            have := (of_decide_eq_true hcv) k hlt i hlti
            rw [hcf] at this; cases this

set_option maxHeartbeats 8000000 in
theorem ref13_Prism_ok {f fa fat fv fc : FuncId} (hf : FnOk P f (ref13_Prism.c fa fat fv fc) ref13_Prism.r ref13_Prism.n) (hadd : AddC P fa) (hat : LevelC P fat) (hfit : FitsVC P fv) (hcv : ConvexC P fc) : PrismC P f := by
  intro l z h hl hz0 hh0
  have hz := inI_iff.1 hz0
  have hh := inI_iff.1 hh0
  by_cases h1 : l.length < 3 ∨ 64 < l.length ∨ h < 1
  · have hp : prismV l z h = mesV noMesh 1 := by rw [prismV, if_pos h1]
    rw [hp]
    refine CallIs.res (r := .t [.a [.nil, .nil], .i .i64 1]) ?_ (noMesh_le 1)
    refine PureC.is (pure_of hm hf (Nat.le_of_ble_eq_true rfl) ?_) rfl
    unfold ref13_Prism.c
    by_cases h2 : (l.length : Int) < 3
    · simp [go_sem, psV, h2, ref13_Prism.r]
    · by_cases h3 : (64 : Int) < l.length
      · simp [go_sem, psV, h2, h3, ref13_Prism.r]
      · have h4 : h < 1 := by omega
        simp [go_sem, psV, h2, h3, h4, ref13_Prism.r]
  have h2 : ¬ (l.length : Int) < 3 := by omega
  have h3 : ¬ (64 : Int) < l.length := by omega
  have h4 : ¬ h < 1 := by omega
  have hp : prismV l z h = solidV l (prismMesh l z h) := by rw [prismV, if_neg h1]
  rw [hp]
  obtain ⟨m, hm2⟩ : ∃ m, l.length = m + 2 := ⟨l.length - 2, by omega⟩
  have hvl : (prismMesh l z h).verts.length ≤ 1000000 := by simp [prismMesh, levelVs_len]; omega
  have hfit' := (hfit (prismMesh l z h).verts hvl).pure
  cases hin : inI (z + h)
  · have hsv : solidV l (prismMesh l z h) = mesV noMesh 8 := by
      have : vsOk (prismMesh l z h).verts = false := by
        cases l with
        | nil => simp at h2
        | cons p r =>
          rw [Bool.eq_false_iff]
          intro hv
          simp only [prismMesh, vsOk, levelVs, List.map_cons, List.cons_append, List.all_cons, List.all_append, Bool.and_eq_true] at hv
          have a2 := V3.valid_iff.1 hv.2.2.1
          simp only at a2
          have : inI (z + h) = true := inI_iff.2 ⟨by omega, by omega⟩
          rw [hin] at this; cases this
      rw [solidV, if_pos this]
    rw [hsv]
    refine CallIs.res (r := .t [.a [.nil, .nil], .i .i64 8]) ?_ (noMesh_le 8)
    refine PureC.is (pure_of hm hf (Nat.le_of_ble_eq_true rfl) ?_) rfl
    unfold ref13_Prism.c
    simp [go_sem, psV, h2, h3, h4]
    refine ACall_is (hadd z h hz0 hh0) ?_
    simp [go_sem, hin]
    refine ACall_new (hat l z hl) rfl ?_
    simp [go_sem, sh_vcs]
    refine DCall_new (hat l 0 hl) rfl ?_
    simp [go_sem, sh_vcs, take_lev, levelVs_len, ref13_Prism.r]
    omega
  have w1 := inI_iff.1 hin
  refine CallIs.res ?_ (solidN_le l _)
  refine PureC.is (pure_of hm hf (Nat.le_of_ble_eq_true rfl) ?_) rfl
  unfold ref13_Prism.c
  simp [go_sem, psV, h2, h3, h4]
  refine ACall_is (hadd z h hz0 hh0) ?_
  simp [go_sem, hin]
  refine ACall_new (hat l z hl) rfl ?_
  simp [go_sem, sh_vcs]
  refine DCall_new (hat l (z + h) hl) rfl ?_
  simp [go_sem, sh_vcs, take_lev, levelVs_len]
  refine ⟨⟨by omega, by omega⟩, ?_⟩
  refine ACall_lend (vs := [vsV (prismMesh l z h).verts]) ?_ hfit' rfl ?_
  · simp [go_sem, frzAll, frz, frz0, vsV, prismMesh, take_levs, levelVs_len, or_imp, forall_and, vcs_isD]
  unfold solidN
  cases hvs : vsOk (prismMesh l z h).verts
  · simp [go_sem, ref13_Prism.r]
  simp [go_sem]
  refine ACall_is (hcv l hl) ?_
  cases hcx : convexB l
  · simp [go_sem, ref13_Prism.r]
  simp [go_sem]
  refine AS_loopG [.c 2 0 1 3] (α := Nat) (fun k => k ≤ m)
    (fun k => ⟨[(6, .p 0 1 0 0), (8, .i .i64 l.length), (11, .p 2 1 0 0), (12, .i .i64 ((k : Int) + 1))],
      [.arr 1 2 [[.nil, .nil]], .arr (l.length + 1 + 1) 3 (List.map V3.cs (levelVs l z) ++ List.map V3.cs (levelVs l (z + h))), .arr 1 2 [[.own 1 (l.length + 1 + 1) 0 (l.length + l.length), .own 4 (k + 1) 0 k]], .dead, .arr (k + 1) 3 (List.map T3.cs (bottomTs k))]⟩)
    (fun k => m - k) 0 (Nat.zero_le _) ?_ ?_
  · simp [go_sem, bottomTs]
    exact cl_v2
  · intro k hk
    by_cases hkm : k = m
    · subst hkm
      simp (disch := omega) [go_sem, wrap64_small, show ¬ (k : Int) + 1 ≤ (l.length : Int) - 2 by omega]
      refine AS_loop (α := Nat) (fun i => i ≤ k)
        (fun i => ⟨[(6, .p 0 1 0 0), (8, .i .i64 l.length), (11, .p 2 1 0 0), (13, .i .i64 ((i : Int) + 1))],
          [.arr 1 2 [[.nil, .nil]], .arr (l.length + 1 + 1) 3 (List.map V3.cs (levelVs l z) ++ List.map V3.cs (levelVs l (z + h))), .arr 1 2 [[.own 1 (l.length + 1 + 1) 0 (l.length + l.length), .own 4 (k + 1 + i) 0 (k + i)]], .dead, .arr (k + 1 + i) 3 (List.map T3.cs (bottomTs k ++ topTs l.length i))]⟩)
        (fun i => k - i) 0 (Nat.zero_le _) ?_ ?_
      · simp [go_sem, topTs]
        first | exact ⟨cl_v2, cl_t1⟩ | exact cl_v2
      · intro i hi
        by_cases hil : i = k
        · subst hil
          simp (disch := omega) [go_sem, wrap64_small, show ¬ (i : Int) + 1 ≤ (l.length : Int) - 2 by omega]
          refine AS_loop (α := Nat) (fun j => j ≤ l.length)
            (fun j => ⟨[(6, .p 0 1 0 0), (8, .i .i64 l.length), (11, .p 2 1 0 0), (14, .i .i64 j)],
              [.arr 1 2 [[.nil, .nil]], .arr (l.length + 1 + 1) 3 (List.map V3.cs (levelVs l z) ++ List.map V3.cs (levelVs l (z + h))), .arr 1 2 [[.own 1 (l.length + 1 + 1) 0 (l.length + l.length), .own 4 (i + 1 + i + j) 0 (i + i + 2 * j)]], .dead, .arr (i + 1 + i + j) 3 (List.map T3.cs (bottomTs i ++ topTs l.length i ++ sideTs l.length j))]⟩)
            (fun j => l.length - j) 0 (Nat.zero_le _) ?_ ?_
          · simp [go_sem, sideTs]
            first | exact ⟨cl_v2, cl_t2⟩ | exact cl_v2
          · intro j hjl0
            by_cases hjl1 : j = l.length
            · subst hjl1
              have hk2 : l.length - 2 = i := by omega
              have q2 : List.take (i + i + 2 * l.length) (List.map T3.cs (bottomTs i) ++ (List.map T3.cs (topTs l.length i) ++ List.map T3.cs (sideTs l.length l.length))) = List.map T3.cs (bottomTs i) ++ (List.map T3.cs (topTs l.length i) ++ List.map T3.cs (sideTs l.length l.length)) :=
                List.take_of_length_le (by simp [bottomTs_len, topTs_len, sideTs_len]; omega)
              have q3 : i + i + 2 * l.length ≤ i + (i + 2 * l.length) := by omega
              simp (disch := omega) [go_sem, ref13_Prism.r, prismMesh, mesV, Mesh.enc, Mesh.cs, vsV, tsV, hk2, take_levs, q2, q3, levelVs_len, bottomTs_len, topTs_len, sideTs_len, or_imp, forall_and, vcs_isD, tcs_isD]
            · have hne : ¬ l = [] := by rintro rfl; simp at hm2
              have hj : ((j : Int) + 1).tmod (l.length : Int) = (((j + 1) % l.length : Nat) : Int) := by
                rw [Int.tmod_eq_emod_of_nonneg (by omega)]; simp
              have hjl : (j + 1) % l.length < l.length := Nat.mod_lt _ (by omega)
              have hside : sideT l.length j = [⟨j, ((j + 1) % l.length : Nat), (l.length : Int) + ((j + 1) % l.length : Nat)⟩, ⟨j, (l.length : Int) + ((j + 1) % l.length : Nat), (l.length : Int) + j⟩] := rfl
              generalize (j + 1) % l.length = j' at hj hjl hside
              have e1 := bottomTs_len i
              have e2 := topTs_len l.length i
              have e3 := sideTs_len l.length j
              simp (disch := omega) [go_sem, wrap64_small, show (j : Int) < (l.length : Int) by omega, hne, hj]
              refine ⟨⟨by omega, by omega, by omega⟩, j + 1, by omega, by omega, by omega, cl_v2, ⟨by omega, by omega⟩, ⟨by omega, ?_⟩, cl_t3⟩
              rw [List.take_of_length_le (by simp; omega), sideTs_succ, hside]
              simp [T3.cs]
        · simp (disch := omega) [go_sem, wrap64_small, show (i : Int) + 1 ≤ (l.length : Int) - 2 by omega]
          have e1 := bottomTs_len k
          have e2 := topTs_len l.length i
          refine ⟨⟨by omega, by omega, by omega⟩, i + 1, by omega, by omega, by omega, cl_v2, ⟨by omega, by omega⟩, ⟨by omega, ?_⟩, cl_t2⟩
          rw [List.take_of_length_le (by simp; omega), topTs_succ]
          simp [topT, T3.cs]
    · simp (disch := omega) [go_sem, wrap64_small, show (k : Int) + 1 ≤ (l.length : Int) - 2 by omega]
      have e1 := bottomTs_len k
      refine ⟨⟨by omega, by omega, by omega⟩, k + 1, by omega, by omega, by omega, cl_v2, rfl, ?_⟩
      rw [List.take_of_length_le (by simp; omega)]
      simp [bottomTs, List.range_succ, bottomT, T3.cs]
      omega
end
end Go.Abs

