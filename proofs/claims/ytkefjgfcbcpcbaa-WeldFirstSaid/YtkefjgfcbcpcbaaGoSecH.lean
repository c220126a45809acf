/- Part of the abstract machine on which the proof stands: its values, code and their soundness against the model. -/
import Derived.Test.YtkefjgfcbcpcbaaGoSecF
import Derived.Test.YtkefjgfcbcpcbaaGoRevC
import Derived.Test.YtkefjgfcbcpcbaaGoHeap
set_option linter.unusedVariables false
set_option linter.unusedSimpArgs false
namespace Go.Abs

def Mesh.small (m : Mesh) : Bool := decide (m.tris.length ≤ 40) && decide (m.verts.length ≤ 60)
def SmallC (P : Program) (f : FuncId) : Prop := ∀ m : Mesh, CallIs P f [m.enc] (.b m.small)
def segV (l : List Sg4) : V := .l 4 (l.map Sg4.cs)
def SegsC (P : Program) (f : FuncId) : Prop := ∀ l : List Sg4, l.length ≤ 4096 → CallIs P f [segV l, segV l] (.b true)

theorem secCut_len (m : Mesh) (z : Int) : (secCut m z).1.length ≤ 4096 := by
  unfold secCut
  split
  · rename_i h
    obtain ⟨z1, z2, z3, z4⟩ := Mesh.check_zero.1 h
    split
    · simp
    · have := segEls_len m z m.tris
      simp only [segEls, List.length_map] at this
      simp only
      omega
  · simp

theorem rnd_in {n d k : Int} (hd : 0 < d) (h1 : 0 ≤ n) (h2 : n ≤ k * d) : 0 ≤ rnd n d ∧ rnd n d ≤ k := by
  unfold rnd
  refine ⟨Int.ediv_nonneg (by omega) (by omega), ?_⟩
  have h4 : k * (2 * d) = 2 * (k * d) := by rw [Int.mul_left_comm]
  have h3 : (2 * n + d) / (2 * d) < k + 1 := Int.ediv_lt_of_lt_mul (by omega) (by rw [Int.add_mul]; omega)
  omega

theorem rnd_in' {n d k : Int} (hd : 0 < d) (h1 : n ≤ 0) (h2 : -(k * d) ≤ n) : -k ≤ rnd n d ∧ rnd n d ≤ 0 := by
  unfold rnd
  constructor
  · refine Int.le_ediv_of_mul_le (by omega) ?_
    have : -k * (2 * d) = -(2 * (k * d)) := by rw [Int.neg_mul, Int.mul_left_comm]
    omega
  · have h3 : (2 * n + d) / (2 * d) < 1 := Int.ediv_lt_of_lt_mul (by omega) (by omega)
    omega

theorem crs_in {c0 c1 z0 z1 z : Int} (h1 : z0 ≤ z) (h2 : z < z1) : min c0 c1 ≤ crs c0 c1 z0 z1 z ∧ crs c0 c1 z0 z1 z ≤ max c0 c1 := by
  unfold crs
  by_cases h : c0 ≤ c1
  · have h3 := rnd_in (n := (c1 - c0) * (2 * z + 1 - 2 * z0)) (d := 2 * (z1 - z0)) (k := c1 - c0) (by omega) (Int.mul_nonneg (by omega) (by omega)) (Int.mul_le_mul_of_nonneg_left (by omega) (by omega))
    omega
  · have h4 : (c1 - c0) * (2 * z + 1 - 2 * z0) = -((c0 - c1) * (2 * z + 1 - 2 * z0)) := by rw [← Int.neg_mul]; congr 1; omega
    have h5 : 0 ≤ (c0 - c1) * (2 * z + 1 - 2 * z0) := Int.mul_nonneg (by omega) (by omega)
    have h6 : (c0 - c1) * (2 * z + 1 - 2 * z0) ≤ (c0 - c1) * (2 * (z1 - z0)) := Int.mul_le_mul_of_nonneg_left (by omega) (by omega)
    have h3 := rnd_in' (n := (c1 - c0) * (2 * z + 1 - 2 * z0)) (d := 2 * (z1 - z0)) (k := c0 - c1) (by omega) (by omega) (by omega)
    omega

section
variable {P : Program} (hm : P.follows .mixedOrders = true)
include hm

theorem law15_Small_ok {f : FuncId} (hf : FnOk P f law15_Small.c law15_Small.r law15_Small.n) : SmallC P f := by
  intro m
  refine PureC.is (pure_of hm hf (Nat.le_of_ble_eq_true rfl) ?_) rfl
  unfold law15_Small.c
  simp +contextual -implicitDefEqProofs [go_sem, Mesh.enc, Mesh.cs, vsV, tsV, law15_Small.r, Mesh.small]
  congr 1 <;> (rw [decide_eq_decide]; omega)

theorem law15_segs_ok {f : FuncId} (hf : FnOk P f law15_segs.c law15_segs.r law15_segs.n) : SegsC P f := by
  intro l hl
  refine PureC.is (pure_of hm hf (Nat.le_of_ble_eq_true rfl) ?_) rfl
  unfold law15_segs.c
  simp [go_sem, segV]
  refine AS_loop (α := Nat) (fun k => k ≤ l.length) (fun k => ⟨[(0, segV l), (1, segV l), (5, .i .i64 k)], []⟩) (fun k => l.length - k) 0 (Nat.zero_le _) ?_ ?_
  · simp [go_sem, segV]
  · intro k hk
    cases hp : l[k]? with
    | none =>
      have : ¬ k < l.length := by simpa using hp
      obtain rfl : k = l.length := by omega
      simp [go_sem, segV, law15_segs.r]
    | some t =>
      obtain ⟨hlt, hp'⟩ := List.getElem?_eq_some_iff.1 hp
      simp [go_sem, segV, hlt, hp', Sg4.cs]
      simp (disch := omega) [go_sem, wrap64_small]
      refine ⟨k + 1, by omega, by omega, ?_⟩
      simp [go_sem, segV]

theorem SectionPoints_ok {f fp fr fa : FuncId} (hf : FnOk P f (law15_SectionPoints.c fp fr fa) law15_SectionPoints.r law15_SectionPoints.n) (hp : PointC P fp) (hr : PointC P fr) (ha : AwakeC P fa) (a b : V3) (z : Int) :
    PureC P f [a.enc, b.enc, .i .i64 z] (· = .b true) := by
  refine pure_of hm hf (Nat.le_of_ble_eq_true rfl) ?_
  unfold law15_SectionPoints.c
  simp [go_sem, V3.enc, vcs]
  refine ACall_is (hp a b z) ?_
  cases h : point a b z <;> simp [go_sem, ptR] <;> refine ACall_is (hr a b z) ?_ <;> rw [h] <;> simp [go_sem, ptR] <;> refine ACall_is ha ?_ <;> simp [go_sem, law15_SectionPoints.r]

theorem SectionCuts_ok {f fs fa fp fr fg : FuncId} (hf : FnOk P f (law15_SectionCuts.c fs fa fp fr fg) law15_SectionCuts.r law15_SectionCuts.n) (hs : SmallC P fs) (ha : AwakeC P fa) (hp : SecC P fp) (hr : SecC P fr) (hg : SegsC P fg) (m : Mesh) (z : Int) :
    PureC P f [m.enc, .i .i64 z] (· = .b true) := by
  refine pure_of hm hf (Nat.le_of_ble_eq_true rfl) ?_
  unfold law15_SectionCuts.c
  simp [go_sem, Mesh.enc, Mesh.cs, vsV, tsV]
  refine ACall_is (hs m) ?_
  cases h : m.small
  · simp [go_sem]
    refine ACall_is ha ?_
    simp [go_sem, law15_SectionCuts.r]
  · simp [go_sem]
    refine ACall_is (hp m z) ?_
    simp [go_sem, secL]
    refine ACall_is (hr m z) ?_
    simp [go_sem, secL]
    refine ACall_is (hg _ (secCut_len m z)) ?_
    simp [go_sem]
    refine ACall_is ha ?_
    simp [go_sem, law15_SectionCuts.r]

set_option maxRecDepth 8000 in
set_option maxHeartbeats 2000000 in
theorem SectionInside_ok {f fp fa : FuncId} (hf : FnOk P f (law15_SectionInside.c fp fa) law15_SectionInside.r law15_SectionInside.n) (hp : PointC P fp) (ha : AwakeC P fa) (a b : V3) (z : Int) :
    PureC P f [a.enc, b.enc, .i .i64 z] (· = .b true) := by
  refine pure_of hm hf (Nat.le_of_ble_eq_true rfl) ?_
  unfold law15_SectionInside.c
  simp [go_sem, V3.enc, vcs]
  refine ACall_is (hp a b z) ?_
  by_cases h : a.valid = true ∧ b.valid = true ∧ a.z ≤ z ∧ z < b.z
  · have hpt : point a b z = some (crs a.x b.x a.z b.z z, crs a.y b.y a.z b.z z) := by simp only [point, h, and_self, if_true]
    have hx := crs_in (c0 := a.x) (c1 := b.x) h.2.2.1 h.2.2.2
    have hy := crs_in (c0 := a.y) (c1 := b.y) h.2.2.1 h.2.2.2
    rw [hpt]
    simp [go_sem, ptR, h.2.2.1, h.2.2.2, min_if, max_if, hx.1, hx.2, hy.1, hy.2]
    refine ACall_is ha ?_
    simp [go_sem, law15_SectionInside.r]
  · have hpt : point a b z = none := by simp only [point, h, if_false]
    rw [hpt]
    simp [go_sem, ptR]
    refine ACall_is ha ?_
    simp [go_sem, law15_SectionInside.r]
end
end Go.Abs

set_option linter.unusedVariables false
set_option linter.unusedSimpArgs false
namespace Go.Abs

theorem step_found (z : Int) (s : Sg4) (u v : V3) : (s.step z u v).found = (s.found || (point u v z).isSome) := by
  unfold Sg4.step
  cases point u v z <;> cases point v u z <;> simp

theorem point_some {u v : V3} {z : Int} (hu : u.valid = true) (hv : v.valid = true) : (point u v z).isSome = decide (u.z ≤ z ∧ z < v.z) := by
  simp only [point, hu, hv, true_and]
  split <;> simp_all

theorem cut3_found {a b c : V3} {z : Int} (ha : a.valid = true) (hb : b.valid = true) (hc : c.valid = true) :
    (cut3 z a b c).found = decide (min c.z (min b.z a.z) ≤ z ∧ z < max c.z (max b.z a.z)) := by
  simp only [cut3, cutAt, step_found, Sg4.init, point_some, ha, hb, hc, Bool.false_or]
  rw [← Bool.decide_or, ← Bool.decide_or, decide_eq_decide]
  omega

def Sg4.swap (s : Sg4) : Sg4 := ⟨s.b, s.a, s.found⟩

theorem cut3_rev {a b c : V3} {z : Int} (ha : a.valid = true) (hb : b.valid = true) (hc : c.valid = true) : cut3 z a c b = (cut3 z a b c).swap := by
  by_cases h1 : a.z ≤ z <;> by_cases h2 : b.z ≤ z <;> by_cases h3 : c.z ≤ z <;>
    simp [cut3, cutAt, Sg4.init, Sg4.step, Sg4.swap, point, ha, hb, hc, h1, h2, h3, Int.not_lt.2, Int.not_le.1, show (z < a.z) = ¬ (a.z ≤ z) by simp, show (z < b.z) = ¬ (b.z ≤ z) by simp, show (z < c.z) = ¬ (c.z ≤ z) by simp]

theorem Mesh.v_valid {m : Mesh} (h : vsOk m.verts = true) {i : Int} (hi : i < m.verts.length) : (m.v i).valid = true := by
  unfold Mesh.v
  cases hp : m.verts[i.toNat]? with
  | none => rfl
  | some p => exact vsOk_get h hp

theorem triCut_found {m : Mesh} {z : Int} {t : T3} (hv : vsOk m.verts = true) (ht : t.ok m.verts.length = true) :
    (triCut m z t).found = decide (min (m.v t.c).z (min (m.v t.b).z (m.v t.a).z) ≤ z ∧ z < max (m.v t.c).z (max (m.v t.b).z (m.v t.a).z)) := by
  obtain ⟨_, h1, _, h2, _, h3⟩ := T3.ok_iff.1 ht
  exact cut3_found (Mesh.v_valid hv h1) (Mesh.v_valid hv h2) (Mesh.v_valid hv h3)

theorem segs_rev {m : Mesh} {z : Int} (hv : vsOk m.verts = true) : ∀ ts : List T3, tsOk m.verts.length ts = true → segsOf m.rev z (ts.map T3.rev) = (segsOf m z ts).map Sg4.swap
  | [], _ => rfl
  | t :: ts, h => by
    simp only [tsOk, List.all_cons, Bool.and_eq_true] at h
    have ih := segs_rev (z := z) hv ts h.2
    obtain ⟨_, h1, _, h2, _, h3⟩ := T3.ok_iff.1 h.1
    have ht : triCut m.rev z t.rev = (triCut m z t).swap := cut3_rev (Mesh.v_valid hv h1) (Mesh.v_valid hv h2) (Mesh.v_valid hv h3)
    simp only [segsOf] at ih ⊢
    simp only [List.map_cons, List.filter_cons, ht, ih]
    show (if (triCut m z t).found = true then _ else _) = _
    split <;> simp

theorem rev_check {m : Mesh} (h : m.check = 0) : m.rev.check = 0 := by
  obtain ⟨z1, z2, z3, z4⟩ := Mesh.check_zero.1 h
  refine Mesh.check_zero.2 ⟨z1, by simpa [Mesh.rev] using z2, z3, ?_⟩
  simp only [tsOk, List.all_eq_true, Mesh.rev, List.mem_map] at z4 ⊢
  rintro x ⟨t, ht, rfl⟩
  have := T3.ok_iff.1 (z4 t ht)
  exact T3.ok_iff.2 ⟨this.1, this.2.1, this.2.2.2.2.1, this.2.2.2.2.2, this.2.2.1, this.2.2.2.1⟩

theorem secCut_rev {m : Mesh} {z : Int} (h : m.check = 0) : secCut m.rev z = ((secCut m z).1.map Sg4.swap, (secCut m z).2) := by
  obtain ⟨z1, z2, z3, z4⟩ := Mesh.check_zero.1 h
  simp only [secCut, h, rev_check h, if_true]
  split
  · rfl
  · simp only [Mesh.rev]
    rw [← segs_rev (z := z) z3 m.tris z4]
    rfl

section
variable {P : Program} (hm : P.follows .mixedOrders = true)
include hm

set_option maxRecDepth 8000 in
set_option maxHeartbeats 4000000 in
theorem SectionCounts_ok {f fs fc fa fp : FuncId} (hf : FnOk P f (law15_SectionCounts.c fs fc fa fp) law15_SectionCounts.r law15_SectionCounts.n) (hs : SmallC P fs) (hc : CheckC P fc) (ha : AwakeC P fa) (hp : SecC P fp) (m : Mesh) (z : Int) :
    PureC P f [m.enc, .i .i64 z] (· = .b true) := by
  refine pure_of hm hf (Nat.le_of_ble_eq_true rfl) ?_
  unfold law15_SectionCounts.c
  simp [go_sem, Mesh.enc, Mesh.cs, vsV, tsV]
  refine ACall_is (hs m) ?_
  cases h : m.small
  · simp [go_sem]
    refine ACall_is ha ?_
    simp [go_sem, law15_SectionCounts.r]
  simp [go_sem]
  refine ACall_is (hc m) ?_
  by_cases hz : m.check = 0 ∧ -65536 ≤ z ∧ z ≤ 65536
  · obtain ⟨hz, hz1, hz2⟩ := hz
    obtain ⟨z1, z2, z3, z4⟩ := Mesh.check_zero.1 hz
    have hres : secL (secCut m z) = .t [.l 4 (segEls m z m.tris), .i .i64 0] := by simp only [secCut, hz, show ¬ (z < -65536 ∨ 65536 < z) by omega, if_true, if_false]; rfl
    simp [go_sem, hz, show ¬ z < -65536 by omega, show ¬ 65536 < z by omega]
    refine AS_loop (α := Nat) (fun k => k ≤ m.tris.length)
      (fun k => ⟨[(1, .i .i64 z), (2, .p 0 1 0 0), (5, .i .i64 (segEls m z (m.tris.take k)).length), (6, .i .i64 k)], [.arr 1 2 [m.cs]]⟩)
      (fun k => m.tris.length - k) 0 (Nat.zero_le _) ?_ ?_
    · simp [go_sem, segEls, segsOf, Mesh.cs, vsV, tsV]
    · intro k hk'
      have hlen := segEls_len m z (m.tris.take k)
      have hlen2 : (m.tris.take k).length ≤ k := by simp; omega
      cases hp' : m.tris[k]? with
      | none =>
        have : ¬ k < m.tris.length := by simpa using hp'
        obtain rfl : k = m.tris.length := by omega
        rw [List.take_length]
        simp [go_sem, Mesh.cs, vsV, tsV]
        refine ACall_is (hp m z) ?_
        rw [hres]
        simp [go_sem]
        refine ACall_is ha ?_
        simp [go_sem, law15_SectionCounts.r]
      | some t =>
        obtain ⟨hlt, hp''⟩ := List.getElem?_eq_some_iff.1 hp'
        have hsucc := segEls_succ (m := m) (z := z) hp'
        obtain ⟨t1, t2, t3, t4, t5, t6⟩ := T3.ok_iff.1 (tsOk_get z4 hp')
        have hfo := triCut_found (z := z) z3 (tsOk_get z4 hp')
        have ga := Mesh.v_get t2 (by omega)
        have gb := Mesh.v_get t4 (by omega)
        have gc := Mesh.v_get t6 (by omega)
        generalize hels : segEls m z (m.tris.take k) = els at *
        simp +contextual -implicitDefEqProofs [go_sem, hlt, Mesh.cs, vsV, tsV, hp'', tcs, vcs, t1, t2, t3, t4, t5, t6, show t.a.toNat < m.verts.length by omega, show t.b.toNat < m.verts.length by omega, show t.c.toNat < m.verts.length by omega, ga, gb, gc, min_if, max_if]
        cases hb : (triCut m z t).found
        · rw [hb] at hfo hsucc
          have hfo' := of_decide_eq_false hfo.symm
          simp at hsucc
          refine ⟨fun q1 q2 => absurd ⟨by omega, by omega⟩ hfo', fun _ => ?_⟩
          simp (disch := omega) [go_sem, wrap64_small]
          exact ⟨k + 1, by omega, by omega, by rw [hsucc], by omega⟩
        · rw [hb] at hfo hsucc
          have hfo' := of_decide_eq_true hfo.symm
          simp at hsucc
          refine ⟨fun q1 q2 => ?_, fun hh => ?_⟩
          · simp (disch := omega) [go_sem, wrap64_small]
            exact ⟨k + 1, by omega, by omega, by rw [hsucc]; simp, by omega⟩
          · exact absurd (hh (by omega)) (by omega)
  · by_cases hz' : m.check = 0
    · by_cases h1 : z < -65536
      · simp [go_sem, hz', h1]
        refine ACall_is ha ?_
        simp [go_sem, law15_SectionCounts.r]
      · simp [go_sem, hz', h1, show 65536 < z by omega]
        refine ACall_is ha ?_
        simp [go_sem, law15_SectionCounts.r]
    · have hzb : (m.check != 0) = true := by simpa using hz'
      simp [go_sem, hz', hzb]
      refine ACall_is ha ?_
      simp [go_sem, law15_SectionCounts.r]

set_option maxRecDepth 8000 in
set_option maxHeartbeats 4000000 in
theorem SectionReversed_ok {f fs fc fa fp fr : FuncId} (hf : FnOk P f (law15_SectionReversed.c fs fc fa fp fr) law15_SectionReversed.r law15_SectionReversed.n) (hs : SmallC P fs) (hc : CheckC P fc) (ha : AwakeC P fa) (hp : SecC P fp) (hr : ReverseC P fr)
    (m : Mesh) (z : Int) : PureC P f [m.enc, .i .i64 z] (· = .b true) := by
  refine pure_of hm hf (Nat.le_of_ble_eq_true rfl) ?_
  unfold law15_SectionReversed.c
  simp [go_sem, Mesh.enc, Mesh.cs, vsV, tsV]
  refine ACall_is (hs m) ?_
  cases h : m.small
  · simp [go_sem]
    refine ACall_is ha ?_
    simp [go_sem, law15_SectionReversed.r]
  simp [go_sem]
  refine ACall_is (hc m) ?_
  by_cases hz : m.check = 0
  · simp [go_sem, hz]
    refine ACall_is (hp m z) ?_
    have hlen := secCut_len m z
    simp [go_sem, secL]
    refine ACall_is (hr m hz) ?_
    simp [go_sem, secL, Mesh.enc, Mesh.cs]
    refine ACall_is (hp m.rev z) ?_
    rw [secCut_rev hz]
    simp [go_sem, secL]
    generalize hl : (secCut m z).1 = l at *
    refine AS_loop (α := Nat) (fun k => k ≤ l.length) (fun k => ⟨[(5, .l 4 (l.map Sg4.cs)), (7, .l 4 (l.map (Sg4.cs ∘ Sg4.swap))), (9, .i .i64 k)], []⟩) (fun k => l.length - k) 0 (Nat.zero_le _) ?_ ?_
    · simp [go_sem]
    · intro k hk
      cases hp : l[k]? with
      | none =>
        have : ¬ k < l.length := by simpa using hp
        obtain rfl : k = l.length := by omega
        simp [go_sem]
        refine ACall_is ha ?_
        simp [go_sem, law15_SectionReversed.r]
      | some t =>
        obtain ⟨hlt, hp'⟩ := List.getElem?_eq_some_iff.1 hp
        simp [go_sem, hlt, hp', Sg4.cs, Sg4.swap]
        simp (disch := omega) [go_sem, wrap64_small]
        refine ⟨k + 1, by omega, by omega, ?_⟩
        simp [go_sem]
  · have hzb : (m.check != 0) = true := by simpa using hz
    simp [go_sem, hz, hzb]
    refine ACall_is ha ?_
    simp [go_sem, law15_SectionReversed.r]
end
end Go.Abs

