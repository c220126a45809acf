/- What the functions that make boxes do to values. -/
import Derived.Test.YtoppidobgkgiiaaGoShpB
set_option linter.unusedVariables false
set_option linter.unusedSimpArgs false
namespace Go.Abs

theorem vsOk1 (p : V3) : vsOk [p] = p.valid := by simp [vsOk]
theorem within_of_add {p s : V3} (h1 : p.valid = true) (h2 : (p.add s).valid = true) : s.within 131072 = true := by
  have a1 := V3.valid_iff.1 h1
  have a2 := V3.valid_iff.1 h2
  simp only [V3.add] at a2
  rw [within_iff]; omega

section
variable {P : Program} (hm : P.follows .mixedOrders = true)
include hm

set_option maxHeartbeats 4000000 in
theorem ref13_sums_ok {f fa fv : FuncId} (hf : FnOk P f (ref13_sums.c fa fv) ref13_sums.r ref13_sums.n) (ha : AddC P fa) (hv : ValidC P fv) : SumsC P f := by
  intro a b hra hrb
  simp only [V3.inR, Bool.and_eq_true] at hra hrb
  refine PureC.is (pure_of hm hf (Nat.le_of_ble_eq_true rfl) ?_) rfl
  unfold ref13_sums.c
  simp [go_sem, V3.enc, V3.cs]
  refine ACall_is (ha a.x b.x hra.1.1 hrb.1.1) ?_
  cases h1 : inI (a.x + b.x) <;> simp [go_sem]
  all_goals refine ACall_is (ha a.y b.y hra.1.2 hrb.1.2) ?_
  all_goals cases h2 : inI (a.y + b.y) <;> simp [go_sem]
  all_goals refine ACall_is (ha a.z b.z hra.2 hrb.2) ?_
  all_goals cases h3 : inI (a.z + b.z) <;> simp [go_sem]
  case true.true.true =>
    refine DCall_is (hv ⟨_, _, _⟩) ?_
    simp [go_sem, ref13_sums.r, V3.add0, add0, sumsOk, h1, h2, h3]
  all_goals simp [go_sem, ref13_sums.r, V3.add0, add0, sumsOk, h1, h2, h3]

set_option maxHeartbeats 4000000 in
theorem shapes_Box_ok {f ff fn fp fc fl : FuncId} (hf : FnOk P f (shapes_Box.c ff fn fp fc fl) shapes_Box.r shapes_Box.n)
    (hfit : FitsVC P ff) (hnear : NearC P fn) (hplus : PlusC P fp) (hcor : CornersBC P fc) (hcl : CloneC P fl 3) : BoxC P f := by
  intro p s hp hs
  by_cases h1 : s.x < 1 ∨ s.y < 1 ∨ s.z < 1
  · have hb : boxV p s = mesV noMesh 1 := by simp [boxV, h1]
    rw [hb]
    refine CallIs.res (r := .t [.a [.nil, .nil], .i .i64 1]) ?_ (noMesh_le 1)
    refine PureC.is (pure_of hm hf (Nat.le_of_ble_eq_true rfl) ?_) rfl
    unfold shapes_Box.c
    have h2 : min s.x (min s.y s.z) < 1 := by omega
    simp [go_sem, V3.enc, V3.cs, min_if, h2, shapes_Box.r]
  have h2 : ¬ min s.x (min s.y s.z) < 1 := by omega
  by_cases hok : p.valid = true ∧ (p.add s).valid = true
  · have hb : boxV p s = mesV ⟨boxVerts p s, boxTris⟩ 0 := by simp [boxV, h1, hok]
    have hw := within_of_add hok.1 hok.2
    rw [hb]
    refine PureC.is (pure_of hm hf (Nat.le_of_ble_eq_true rfl) ?_) rfl
    unfold shapes_Box.c
    simp [go_sem, V3.enc, V3.cs, min_if, h2]
    refine ACall_is (hfit [p] (by simp)) ?_
    simp [go_sem, vsOk1, hok.1]
    refine ACall_is (hnear s) ?_
    simp [go_sem, hw]
    refine ACall_is (hplus p s) ?_
    rw [plus_add hok.1 hw]
    simp [go_sem, V3.enc, V3.cs]
    refine ACall_is (hfit [p.add s] (by simp)) ?_
    simp [go_sem, vsOk1, hok.2]
    refine ACall_is (hcor p s hok.1 hw) ?_
    simp [go_sem, V3.cs, boxVerts]
    refine ACall_new (hcl _ (by simp [V.isD]) (by simp)) rfl ?_
    simp [go_sem, shapes_Box.r, V3.cs, mesV, Mesh.enc, Mesh.cs, vsV, tsV, boxTris, T3.cs]
  · have hb : boxV p s = mesV noMesh 8 := by simp [boxV, h1, hok]
    rw [hb]
    refine CallIs.res (r := .t [.a [.nil, .nil], .i .i64 8]) ?_ (noMesh_le 8)
    refine PureC.is (pure_of hm hf (Nat.le_of_ble_eq_true rfl) ?_) rfl
    unfold shapes_Box.c
    simp [go_sem, V3.enc, V3.cs, min_if, h2]
    refine ACall_is (hfit [p] (by simp)) ?_
    cases hpv : p.valid
    · simp [go_sem, vsOk1, hpv, shapes_Box.r]
    simp [go_sem, vsOk1, hpv]
    refine ACall_is (hnear s) ?_
    cases hw : s.within 131072
    · simp [go_sem, shapes_Box.r]
    simp [go_sem]
    refine ACall_is (hplus p s) ?_
    rw [plus_add hpv hw]
    simp [go_sem, V3.enc, V3.cs]
    refine ACall_is (hfit [p.add s] (by simp)) ?_
    have hav : (p.add s).valid = false := by rw [Bool.eq_false_iff]; exact fun h => hok ⟨hpv, h⟩
    simp [go_sem, vsOk1, hav, shapes_Box.r]

set_option maxHeartbeats 4000000 in
theorem ref13_Box_ok {f fs fv : FuncId} (hf : FnOk P f (ref13_Box.c fs fv) ref13_Box.r ref13_Box.n) (hsum : SumsC P fs) (hv : ValidC P fv) : BoxC P f := by
  intro p s hp hs
  by_cases h1 : s.x < 1 ∨ s.y < 1 ∨ s.z < 1
  · have hb : boxV p s = mesV noMesh 1 := by simp [boxV, h1]
    rw [hb]
    refine CallIs.res (r := .t [.a [.nil, .nil], .i .i64 1]) ?_ (noMesh_le 1)
    refine PureC.is (pure_of hm hf (Nat.le_of_ble_eq_true rfl) ?_) rfl
    unfold ref13_Box.c
    by_cases h2 : s.x < 1
    · simp [go_sem, V3.enc, V3.cs, ref13_Box.r, h2]
    · by_cases h3 : s.y < 1
      · simp [go_sem, V3.enc, V3.cs, ref13_Box.r, h2, h3]
      · have h4 : s.z < 1 := by omega
        simp [go_sem, V3.enc, V3.cs, ref13_Box.r, h2, h3, h4]
  have h2 : ¬ s.x < 1 := by omega
  have h3 : ¬ s.y < 1 := by omega
  have h4 : ¬ s.z < 1 := by omega
  by_cases hok : p.valid = true ∧ (p.add s).valid = true
  · have hb : boxV p s = mesV ⟨boxVerts p s, boxTris⟩ 0 := by simp [boxV, h1, hok]
    have hso : sumsOk p s = true := by rw [sumsOk_iff hok.1]; exact hok.2
    rw [hb]
    refine PureC.is (pure_of hm hf (Nat.le_of_ble_eq_true rfl) ?_) rfl
    unfold ref13_Box.c
    simp [go_sem, V3.enc, V3.cs, h2, h3, h4]
    refine ACall_is (hsum p s hp hs) ?_
    rw [sumsOk_add hso, hso]
    simp [go_sem, V3.enc, V3.cs, V3.add]
    refine ACall_is (hv p) ?_
    simp [go_sem, hok.1]
    refine AS_loopG [.c 4 0 0 3] (α := Nat) (fun k => k ≤ 8)
      (fun k => ⟨[(2, .p 0 1 0 0), (4, .p 2 1 0 0), (6, .p 3 1 0 0), (8, .p 4 1 0 0), (9, .i .i64 k)], [.arr 1 3 [p.cs], .dead, .arr 1 2 [[.nil, .nil]], .arr 1 3 [(p.add s).cs], .arr 1 2 [[.own 5 (k + 1) 0 k, .nil]], .arr (k + 1) 3 (((boxVerts p s).take k).map V3.cs)]⟩)
      (fun k => 8 - k) 0 (by omega) ?_ ?_
    · simp [go_sem, vcs, V3.add]
    · intro k hk
      by_cases h8 : k = 8
      · subst h8
        simp [go_sem, ref13_Box.r, boxVerts, V3.cs, mesV, Mesh.enc, Mesh.cs, vsV, tsV, boxTris, T3.cs]
      · have : k = 0 ∨ k = 1 ∨ k = 2 ∨ k = 3 ∨ k = 4 ∨ k = 5 ∨ k = 6 ∨ k = 7 := by omega
        have w0 : IntKind.i64.wrap 0 = 0 := rfl
        have w1 : IntKind.i64.wrap 1 = 1 := rfl
        have w2 : IntKind.i64.wrap 2 = 2 := rfl
        have w3 : IntKind.i64.wrap 3 = 3 := rfl
        have w4 : IntKind.i64.wrap 4 = 4 := rfl
        have w5 : IntKind.i64.wrap 5 = 5 := rfl
        have w6 : IntKind.i64.wrap 6 = 6 := rfl
        have w7 : IntKind.i64.wrap 7 = 7 := rfl
        have w8 : IntKind.i64.wrap 8 = 8 := rfl
        rcases this with rfl | rfl | rfl | rfl | rfl | rfl | rfl | rfl
        · simp [go_sem, vcs, boxVerts, V3.add, w0, w1, w2, w3, w4, w5, w6, w7, w8]
          exact ⟨1, by simp [go_sem, V3.cs, or_imp, forall_and, V.cl, V.cl1, V.cl0]⟩
        · simp [go_sem, vcs, boxVerts, V3.add, w0, w1, w2, w3, w4, w5, w6, w7, w8]
          exact ⟨2, by simp [go_sem, V3.cs, or_imp, forall_and, V.cl, V.cl1, V.cl0]⟩
        · simp [go_sem, vcs, boxVerts, V3.add, w0, w1, w2, w3, w4, w5, w6, w7, w8]
          exact ⟨3, by simp [go_sem, V3.cs, or_imp, forall_and, V.cl, V.cl1, V.cl0]⟩
        · simp [go_sem, vcs, boxVerts, V3.add, w0, w1, w2, w3, w4, w5, w6, w7, w8]
          exact ⟨4, by simp [go_sem, V3.cs, or_imp, forall_and, V.cl, V.cl1, V.cl0]⟩
        · simp [go_sem, vcs, boxVerts, V3.add, w0, w1, w2, w3, w4, w5, w6, w7, w8]
          exact ⟨5, by simp [go_sem, V3.cs, or_imp, forall_and, V.cl, V.cl1, V.cl0]⟩
        · simp [go_sem, vcs, boxVerts, V3.add, w0, w1, w2, w3, w4, w5, w6, w7, w8]
          exact ⟨6, by simp [go_sem, V3.cs, or_imp, forall_and, V.cl, V.cl1, V.cl0]⟩
        · simp [go_sem, vcs, boxVerts, V3.add, w0, w1, w2, w3, w4, w5, w6, w7, w8]
          exact ⟨7, by simp [go_sem, V3.cs, or_imp, forall_and, V.cl, V.cl1, V.cl0]⟩
        · simp [go_sem, vcs, boxVerts, V3.add, w0, w1, w2, w3, w4, w5, w6, w7, w8]
          exact ⟨8, by simp [go_sem, V3.cs, or_imp, forall_and, V.cl, V.cl1, V.cl0]⟩
  · have hb : boxV p s = mesV noMesh 8 := by simp [boxV, h1, hok]
    rw [hb]
    refine CallIs.res (r := .t [.a [.nil, .nil], .i .i64 8]) ?_ (noMesh_le 8)
    refine PureC.is (pure_of hm hf (Nat.le_of_ble_eq_true rfl) ?_) rfl
    unfold ref13_Box.c
    simp [go_sem, V3.enc, V3.cs, h2, h3, h4]
    refine ACall_is (hsum p s hp hs) ?_
    cases hso : sumsOk p s
    · simp [go_sem, V3.enc, V3.cs, ref13_Box.r]
    · simp [go_sem, V3.enc, V3.cs]
      refine ACall_is (hv p) ?_
      have hpv : p.valid = false := by
        rw [Bool.eq_false_iff]
        intro hpv
        rw [sumsOk_iff hpv] at hso
        exact hok ⟨hpv, hso⟩
      simp [go_sem, hpv, ref13_Box.r]
end
end Go.Abs

