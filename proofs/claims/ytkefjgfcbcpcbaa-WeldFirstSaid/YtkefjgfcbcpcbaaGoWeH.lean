/- Part of the abstract machine on which the proof stands: its values, code and their soundness against the model. -/
import Derived.Test.YtkefjgfcbcpcbaaGoWeE
set_option linter.unusedVariables false
set_option linter.unusedSimpArgs false
namespace Go.Abs

def Mesh.degI (m : Mesh) (i : Int) : Bool := if 0 ≤ i ∧ i < m.tris.length ∧ m.check = 0 then match m.tris[i.toNat]? with
    | some t => m.deg t
    | none => false
  else false
def DegC (P : Program) (f : FuncId) : Prop := ∀ (m : Mesh) (i : Int), CallIs P f [m.enc, .i .i64 i] (.b (m.degI i))
def TwinsC (P : Program) (f : FuncId) : Prop := ∀ a b : T3, CallIs P f [a.enc, b.enc] (.b (a.twins b))
def cleanR (m : Mesh) : Mesh × Int × Int × Int := if m.check = 0 then (m.cleanM, ((cleanL m.deg m.tris).deg : Nat), ((cleanL m.deg m.tris).twin : Nat), 0) else (noMesh, 0, 0, m.check)
def cleanV (r : Mesh × Int × Int × Int) : V := .t [r.1.enc, .i .i64 r.2.1, .i .i64 r.2.2.1, .i .i64 r.2.2.2]
def CleanC (P : Program) (f : FuncId) : Prop := ∀ m : Mesh, CallIs P f [m.enc] (cleanV (cleanR m))
theorem cleanV_no (e : Int) : Le (.t [.a [.nil, .nil], .i .i64 0, .i .i64 0, .i .i64 e]) (cleanV (noMesh, 0, 0, e)) :=
  .inr ⟨_, _, rfl, rfl, .inr ⟨_, _, rfl, rfl, Le0.nil 3, Le0.nil 3, trivial⟩, Le1.refl _, Le1.refl _, Le1.refl _, trivial⟩
theorem degI_get {m : Mesh} (hz : m.check = 0) {k : Nat} {t : T3} (h : m.tris[k]? = some t) : m.degI k = m.deg t := by
  have hlt := (List.getElem?_eq_some_iff.1 h).1
  unfold Mesh.degI
  rw [if_pos ⟨by omega, by omega, hz⟩, Int.toNat_natCast, h]
theorem mem_turned {l : List T3} {t : T3} : (t.turned ∈ l.map T3.turned) ↔ l.any (T3.twins t) = true := by
  rw [List.mem_map, List.any_eq_true]
  constructor
  · rintro ⟨a, h1, h2⟩; exact ⟨a, h1, turned_iff.1 h2.symm⟩
  · rintro ⟨a, h1, h2⟩; exact ⟨a, h1, (turned_iff.2 h2).symm⟩

section
variable {P : Program} (hm : P.follows .mixedOrders = true)
include hm

theorem ref09_Twins_ok {f : FuncId} (hf : FnOk P f ref09_Twins.c ref09_Twins.r ref09_Twins.n) : TwinsC P f := by
  intro a b
  refine PureC.is (pure_of hm hf (Nat.le_of_ble_eq_true rfl) ?_) rfl
  unfold ref09_Twins.c
  have e1 : decide (a = b) = (a.a == b.a && (a.b == b.b && a.c == b.c)) := by cases a; cases b; rw [Bool.eq_iff_iff]; simp [T3.mk.injEq]
  have e2 : decide (a = b.rot) = (a.a == b.b && (a.b == b.c && a.c == b.a)) := by cases a; cases b; rw [Bool.eq_iff_iff]; simp [T3.mk.injEq, T3.rot]
  have e3 : decide (a = b.rot.rot) = (a.a == b.c && (a.b == b.a && a.c == b.b)) := by cases a; cases b; rw [Bool.eq_iff_iff]; simp [T3.mk.injEq, T3.rot]
  rw [T3.twins, e1, e2, e3]
  cases q1 : (a.a == b.a && (a.b == b.b && a.c == b.c))
  · cases q2 : (a.a == b.b && (a.b == b.c && a.c == b.a))
    · cases q3 : (a.a == b.c && (a.b == b.a && a.c == b.b)) <;> simp [go_sem, T3.enc, tcs, ref09_Twins.r, q1, q2, q3]
    · simp [go_sem, T3.enc, tcs, ref09_Twins.r, q1, q2]
  · simp [go_sem, T3.enc, tcs, ref09_Twins.r, q1]

theorem ref04_Collinear_ok {f fv fs fc : FuncId} (hf : FnOk P f (ref04_Collinear.c fv fs fc) ref04_Collinear.r ref04_Collinear.n) (hv : ValidC P fv) (hs : SubVC P fs) (hc : CrossVC P fc) : CollC P f := by
  intro a b c
  refine PureC.is (pure_of hm hf (Nat.le_of_ble_eq_true rfl) ?_) rfl
  unfold ref04_Collinear.c
  simp [go_sem, V3.enc, vcs]
  refine ACall_is (hv a) ?_
  cases h1 : a.valid
  · simp [go_sem, ref04_Collinear.r, collin, h1]
  simp [go_sem]
  refine ACall_is (hv b) ?_
  cases h2 : b.valid
  · simp [go_sem, ref04_Collinear.r, collin, h1, h2]
  simp [go_sem]
  refine ACall_is (hv c) ?_
  cases h3 : c.valid
  · simp [go_sem, ref04_Collinear.r, collin, h1, h2, h3]
  simp [go_sem]
  refine DCall_is (hs b a h2 h1) ?_
  simp [go_sem]
  refine DCall_is (hs c a h3 h1) ?_
  simp [go_sem]
  refine DCall_is (hc _ _ (sub_within h2 h1) (sub_within h3 h1)) ?_
  simp [go_sem, V3.enc, vcs, ref04_Collinear.r, collin, h1, h2, h3, v3_zero]

set_option maxRecDepth 4000 in
set_option maxHeartbeats 1000000 in
theorem ref07_Corners_ok {f fc : FuncId} (hf : FnOk P f (ref07_Corners.c fc) ref07_Corners.r ref07_Corners.n) (hc : CheckC P fc) : CornersC P f := by
  intro m i
  refine PureC.is (pure_of hm hf (Nat.le_of_ble_eq_true rfl) ?_) rfl
  unfold ref07_Corners.c
  simp [go_sem, Mesh.enc, Mesh.cs, vsV, tsV]
  refine ACall_is (hc m) ?_
  by_cases hz : m.check = 0
  case neg =>
    have hb : (m.check != 0) = true := by simp [hz]
    simp [go_sem, hb, hz, ref07_Corners.r, Mesh.corners, zV3]
  by_cases h : 0 ≤ i ∧ i < m.tris.length
  · obtain ⟨h0, h1⟩ := h
    have hlt : i.toNat < m.tris.length := by omega
    obtain ⟨z1, z2, z3, z4⟩ := Mesh.check_zero.1 hz
    obtain ⟨t, hp⟩ : ∃ t, m.tris[i.toNat]? = some t := ⟨_, List.getElem?_eq_getElem hlt⟩
    obtain ⟨hlt', hp'⟩ := List.getElem?_eq_some_iff.1 hp
    obtain ⟨t1, t2, t3, t4, t5, t6⟩ := T3.ok_iff.1 (tsOk_get z4 hp)
    have ga := Mesh.v_get t2 (by omega)
    have gb := Mesh.v_get t4 (by omega)
    have gc := Mesh.v_get t6 (by omega)
    have hr : m.corners i = .t [(m.v t.a).enc, (m.v t.b).enc, (m.v t.c).enc, .b true] := by
      simp only [Mesh.corners, h0, h1, hz, and_self, if_true, hp]
    rw [hr]
    simp [go_sem, show ¬ i < 0 by omega, show ¬ (m.tris.length : Int) ≤ i by omega, hz, h0, h1, hlt, hp', tcs, vcs, t1, t2, t3, t4, t5, t6, show t.a.toNat < m.verts.length by omega, show t.b.toNat < m.verts.length by omega, show t.c.toNat < m.verts.length by omega, ga, gb, gc, ref07_Corners.r, V3.enc]
  · have : i < 0 ∨ (m.tris.length : Int) ≤ i := by omega
    have hr : m.corners i = .t [zV3, zV3, zV3, .b false] := by
      unfold Mesh.corners; rw [if_neg (by omega)]
    rw [hr]
    by_cases h0 : i < 0
    · simp [go_sem, hz, h0, ref07_Corners.r, zV3]
    · simp [go_sem, hz, h0, show (m.tris.length : Int) ≤ i by omega, ref07_Corners.r, zV3]

theorem weld_Degenerate_ok {f fc fv : FuncId} (hf : FnOk P f (weld_Degenerate.c fc fv) weld_Degenerate.r weld_Degenerate.n) (hc : CornersC P fc) (hv : CollC P fv) : DegC P f := by
  intro m i
  refine PureC.is (pure_of hm hf (Nat.le_of_ble_eq_true rfl) ?_) rfl
  unfold weld_Degenerate.c
  simp [go_sem, Mesh.enc, Mesh.cs]
  refine ACall_is (hc m i) ?_
  by_cases h : 0 ≤ i ∧ i < m.tris.length ∧ m.check = 0
  · obtain ⟨t, ht⟩ : ∃ t, m.tris[i.toNat]? = some t := ⟨_, List.getElem?_eq_getElem (show i.toNat < m.tris.length by omega)⟩
    have e1 : m.corners i = .t [(m.v t.a).enc, (m.v t.b).enc, (m.v t.c).enc, .b true] := by unfold Mesh.corners; rw [if_pos h, ht]
    have e2 : m.degI i = m.deg t := by unfold Mesh.degI; rw [if_pos h, ht]
    rw [e1, e2]
    simp [go_sem, V3.enc, vcs]
    refine ACall_is (hv (m.v t.a) (m.v t.b) (m.v t.c)) ?_
    simp [go_sem, weld_Degenerate.r, Mesh.deg]
  · have e1 : m.corners i = .t [zV3, zV3, zV3, .b false] := by unfold Mesh.corners; rw [if_neg h]
    have e2 : m.degI i = false := by unfold Mesh.degI; rw [if_neg h]
    rw [e1, e2]
    simp [go_sem, zV3, weld_Degenerate.r]
theorem ref09_Degenerate_ok {f fc fv : FuncId} (hf : FnOk P f (ref09_Degenerate.c fc fv) ref09_Degenerate.r ref09_Degenerate.n) (hc : CornersC P fc) (hv : CollC P fv) : DegC P f := weld_Degenerate_ok hm hf hc hv

set_option maxRecDepth 20000 in
set_option maxHeartbeats 4000000 in
theorem weld_Clean_ok {f fc fl ft fv : FuncId} (hf : FnOk P f (weld_Clean.c fc fl ft fv) weld_Clean.r weld_Clean.n) (hc : CheckC P fc) (hl : CloneC P fl 3) (ht : TurnedC P ft) (hv : CollC P fv) : CleanC P f := by
  intro m
  by_cases hz : m.check = 0
  case neg =>
    have he : cleanR m = (noMesh, 0, 0, m.check) := by simp [cleanR, hz]
    rw [he]
    refine CallIs.res (r := .t [.a [.nil, .nil], .i .i64 0, .i .i64 0, .i .i64 m.check]) ?_ (cleanV_no m.check)
    refine PureC.is (pure_of hm hf (Nat.le_of_ble_eq_true rfl) ?_) rfl
    unfold weld_Clean.c
    simp [go_sem, Mesh.enc, Mesh.cs, vsV, tsV]
    refine ACall_is (hc m) ?_
    simp [go_sem, hz, weld_Clean.r]
  have he : cleanR m = (m.cleanM, (((cleanL m.deg m.tris).deg : Nat) : Int), (((cleanL m.deg m.tris).twin : Nat) : Int), 0) := by simp [cleanR, hz]
  rw [he]
  obtain ⟨z1, z2, z3, z4⟩ := Mesh.check_zero.1 hz
  refine PureC.is (pure_of hm hf (Nat.le_of_ble_eq_true rfl) ?_) rfl
  unfold weld_Clean.c
  simp [go_sem, Mesh.enc, Mesh.cs, vsV, tsV]
  refine ACall_is (hc m) ?_
  simp [go_sem, hz]
  refine ACall_new (hl (m.verts.map V3.cs) (by simp [List.all_eq_true, vcs, V.isD]) (by simp; omega)) (by simp [go_sem, V.cl, V.cl1, V.cl0]) ?_
  simp [go_sem, vsV]
  refine AS_loopG [.c 3 0 1 3] (α := Nat) (fun k => k ≤ m.tris.length)
    (fun k => ⟨[(1, .p 0 1 0 0), (2, .p 1 1 0 0), (7, .p 3 1 0 0), (8, .mp 4), (9, .i .i64 (cleanL m.deg (m.tris.take k)).deg), (10, .i .i64 (cleanL m.deg (m.tris.take k)).twin), (26, tsV m.tris), (27, .i .i64 m.tris.length), (28, .i .i64 k)],
      [.arr 1 2 [m.cs], .arr 1 2 [[.nil, .nil]], .arr 1 3 (m.verts.map V3.cs), .arr 1 2 [[.own 2 1 0 m.verts.length, .own 5 ((cleanL m.deg (m.tris.take k)).out.length + 1) 0 (cleanL m.deg (m.tris.take k)).out.length]],
       .mp (((cleanL m.deg (m.tris.take k)).out.map T3.turned).map (kt T3.enc)), .arr ((cleanL m.deg (m.tris.take k)).out.length + 1) 3 ((cleanL m.deg (m.tris.take k)).out.map T3.cs)]⟩)
    (fun k => m.tris.length - k) 0 (Nat.zero_le _) ?_ ?_
  · simp [go_sem, Mesh.cs, vsV, tsV, cleanL]
    exact fun a _ => by simp [vcs, V.sh1, V.sh0]
  · intro k hk
    by_cases hkl : k = m.tris.length
    · subst hkl
      rw [List.take_length]
      simp (disch := omega) [go_sem, Mesh.cs, vsV, tsV, wrap64_small, weld_Clean.r]
      simp [cleanV, Mesh.cleanM, Mesh.enc, Mesh.cs, vsV, tsV]

    · have hlt : k < m.tris.length := by omega
      have hp : m.tris[k]? = some m.tris[k] := List.getElem?_eq_getElem hlt
      have htm : m.tris[k] ∈ m.tris := List.getElem_mem _
      generalize m.tris[k] = t at hp htm
      obtain ⟨_, hp'⟩ := List.getElem?_eq_some_iff.1 hp
      obtain ⟨i0, i1, j0, j1, l0, l1⟩ := tok hz htm
      have g1 := mv_get i0 i1
      have g2 := mv_get j0 j1
      have g3 := mv_get l0 l1
      obtain ⟨q1, r1⟩ := List.getElem?_eq_some_iff.1 g1
      obtain ⟨q2, r2⟩ := List.getElem?_eq_some_iff.1 g2
      obtain ⟨q3, r3⟩ := List.getElem?_eq_some_iff.1 g3
      have hst := cleanL_succ m.deg hp
      have hok := cleanL_ok m.deg (m.tris.take k)
      have hsum := hok.sum
      have hkl2 : (m.tris.take k).length = k := by simp; omega
      rw [hkl2] at hsum
      have hdeg : m.deg t = collin (m.v t.a) (m.v t.b) (m.v t.c) := rfl
      generalize cleanL m.deg (m.tris.take k) = s at *
      simp (disch := omega) [go_sem, Mesh.cs, vsV, tsV, hlt, hp, hp', tcs]
      refine ACall_is (ht t) ?_
      simp (disch := omega) [go_sem, Mesh.cs, vsV, tsV, T3.enc, tcs, vcs, i0, j0, l0, q1, q2, q3, g1, g2, g3, r1, r2, r3]
      refine DCall_is (hv (m.v t.a) (m.v t.b) (m.v t.c)) ?_
      rw [← hdeg]
      unfold Cl.step at hst
      have hfe : findE [1, 1, 1] (V.a [.i .i64 t.turned.a, .i .i64 t.turned.b, .i .i64 t.turned.c]) ((s.out.map T3.turned).map (kt T3.enc)) = _ := findE_set key_T3 t.turned (s.out.map T3.turned)
      cases hd : m.deg t
      · rw [hd] at hst
        simp only [Bool.false_eq_true, if_false] at hst
        by_cases hany : s.out.any (T3.twins t) = true
        · rw [if_pos (mem_turned.2 hany)] at hfe
          rw [if_pos hany] at hst
          rw [List.map_map] at hfe
          simp (disch := omega) [go_sem, Mesh.cs, vsV, tsV, hfe, wrap64_small]
          refine ⟨k + 1, by omega, by omega, ?_⟩
          rw [hst]
          simp [kt, t3c_cl, T3.enc, tcs, V.cl, V.cl1, V.cl0]
        · rw [if_neg (fun h => hany (mem_turned.1 h))] at hfe
          rw [if_neg hany] at hst
          rw [List.map_map] at hfe
          simp (disch := omega) [go_sem, Mesh.cs, vsV, tsV, hfe, wrap64_small]
          refine ⟨⟨by omega, by omega⟩, k + 1, by omega, by omega, ?_⟩
          rw [hst]
          simp [kt, t3c_cl, T3.enc, tcs, V.cl, V.cl1, V.cl0]
      · rw [hd] at hst
        simp only [if_true] at hst
        simp (disch := omega) [go_sem, Mesh.cs, vsV, tsV, wrap64_small]
        refine ⟨k + 1, by omega, by omega, ?_⟩
        rw [hst]
        simp [kt, t3c_cl, T3.enc, tcs, V.cl, V.cl1, V.cl0]
end
end Go.Abs

set_option linter.unusedVariables false
set_option linter.unusedSimpArgs false
namespace Go.Abs

section
variable {P : Program} (hm : P.follows .mixedOrders = true)
include hm

set_option maxRecDepth 20000 in
set_option maxHeartbeats 4000000 in
theorem ref09_Clean_ok {f fc fd ft : FuncId} (hf : FnOk P f (ref09_Clean.c fc fd ft) ref09_Clean.r ref09_Clean.n) (hc : CheckC P fc) (hd : DegC P fd) (ht : TwinsC P ft) : CleanC P f := by
  intro m
  by_cases hz : m.check = 0
  case neg =>
    have he : cleanR m = (noMesh, 0, 0, m.check) := by simp [cleanR, hz]
    rw [he]
    refine CallIs.res (r := .t [.a [.nil, .nil], .i .i64 0, .i .i64 0, .i .i64 m.check]) ?_ (cleanV_no m.check)
    refine PureC.is (pure_of hm hf (Nat.le_of_ble_eq_true rfl) ?_) rfl
    unfold ref09_Clean.c
    simp [go_sem, Mesh.enc, Mesh.cs, vsV, tsV]
    refine ACall_is (hc m) ?_
    simp [go_sem, hz, ref09_Clean.r]
  have he : cleanR m = (m.cleanM, (((cleanL m.deg m.tris).deg : Nat) : Int), (((cleanL m.deg m.tris).twin : Nat) : Int), 0) := by simp [cleanR, hz]
  rw [he]
  obtain ⟨z1, z2, z3, z4⟩ := Mesh.check_zero.1 hz
  refine PureC.is (pure_of hm hf (Nat.le_of_ble_eq_true rfl) ?_) rfl
  unfold ref09_Clean.c
  simp [go_sem, Mesh.enc, Mesh.cs, vsV, tsV]
  refine ACall_is (hc m) ?_
  simp [go_sem, hz]
  refine ⟨⟨by omega, by omega⟩, ?_⟩

  refine AS_loopG [.c 3 0 1 3] (α := Nat) (fun k => k ≤ m.tris.length)
    (fun k => ⟨[(1, .p 0 1 0 0), (2, .p 1 1 0 0), (7, .p 3 1 0 0), (8, .i .i64 (cleanL m.deg (m.tris.take k)).deg), (9, .i .i64 (cleanL m.deg (m.tris.take k)).twin), (10, .i .i64 k)],
      [.arr 1 2 [m.cs], .arr 1 2 [[.nil, .nil]], .arr 1 3 (m.verts.map V3.cs), .arr 1 2 [[.own 2 1 0 m.verts.length, .own 4 ((cleanL m.deg (m.tris.take k)).out.length + 1) 0 (cleanL m.deg (m.tris.take k)).out.length]],
       .arr ((cleanL m.deg (m.tris.take k)).out.length + 1) 3 ((cleanL m.deg (m.tris.take k)).out.map T3.cs)]⟩)
    (fun k => m.tris.length - k) 0 (Nat.zero_le _) ?_ ?_
  · simp [go_sem, Mesh.cs, vsV, tsV, cleanL]
    done
  · intro k hk
    by_cases hkl : k = m.tris.length
    · subst hkl
      rw [List.take_length]
      simp (disch := omega) [go_sem, Mesh.cs, vsV, tsV, wrap64_small, ref09_Clean.r]
      simp [cleanV, Mesh.cleanM, Mesh.enc, Mesh.cs, vsV, tsV]
    · have hlt : k < m.tris.length := by omega
      have hp : m.tris[k]? = some m.tris[k] := List.getElem?_eq_getElem hlt
      have htm : m.tris[k] ∈ m.tris := List.getElem_mem _
      generalize m.tris[k] = t at hp htm
      obtain ⟨_, hp'⟩ := List.getElem?_eq_some_iff.1 hp
      have hst := cleanL_succ m.deg hp
      have hok := cleanL_ok m.deg (m.tris.take k)
      have hsum := hok.sum
      have hkl2 : (m.tris.take k).length = k := by simp; omega
      rw [hkl2] at hsum
      generalize cleanL m.deg (m.tris.take k) = s at *
      simp (disch := omega) [go_sem, Mesh.cs, vsV, tsV, hlt]
      have hd1 := hd m k
      simp only [Mesh.enc, Mesh.cs, vsV, tsV] at hd1
      refine ACall_is hd1 ?_
      rw [degI_get hz hp]
      unfold Cl.step at hst
      cases hdg : m.deg t
      · rw [hdg] at hst
        simp only [Bool.false_eq_true, if_false] at hst
        simp (disch := omega) [go_sem, Mesh.cs, vsV, tsV]
        refine AS_loop (α := Nat) (fun j => j ≤ s.out.length)
          (fun j => ⟨[(1, .p 0 1 0 0), (2, .p 1 1 0 0), (7, .p 3 1 0 0), (8, .i .i64 s.deg), (9, .i .i64 s.twin), (10, .i .i64 k), (11, .b ((s.out.take j).any (T3.twins t))), (12, .i .i64 j)],
            [.arr 1 2 [m.cs], .arr 1 2 [[.nil, .nil]], .arr 1 3 (m.verts.map V3.cs), .arr 1 2 [[.own 2 1 0 m.verts.length, .own 4 (s.out.length + 1) 0 s.out.length]],
             .arr (s.out.length + 1) 3 (s.out.map T3.cs)]⟩)
          (fun j => s.out.length - j) 0 (Nat.zero_le _) ?_ ?_
        · simp [go_sem, Mesh.cs, vsV, tsV]
          done
        · intro j hj
          by_cases hjl : j = s.out.length
          · subst hjl
            rw [List.take_length]
            cases hany : s.out.any (T3.twins t)
            · rw [hany] at hst
              simp only [Bool.false_eq_true, if_false] at hst
              simp (disch := omega) [go_sem, Mesh.cs, vsV, tsV, hlt, hp', tcs, wrap64_small]
              refine ⟨⟨by omega, by omega⟩, k + 1, by omega, by omega, ?_⟩
              rw [hst]
              simp [t3c_cl, T3.enc, tcs, V.cl, V.cl1, V.cl0]
            · rw [hany] at hst
              simp only [if_true] at hst
              simp (disch := omega) [go_sem, Mesh.cs, vsV, tsV, wrap64_small]
              refine ⟨k + 1, by omega, by omega, ?_⟩
              rw [hst]
              simp [t3c_cl, T3.enc, tcs, V.cl, V.cl1, V.cl0]
          · have hjt : j < s.out.length := by omega
            have hq : s.out[j]? = some s.out[j] := List.getElem?_eq_getElem hjt
            generalize s.out[j] = u at hq
            obtain ⟨_, hq'⟩ := List.getElem?_eq_some_iff.1 hq
            have hts : (s.out.take (j + 1)).any (T3.twins t) = ((s.out.take j).any (T3.twins t) || t.twins u) := by rw [List.take_add_one, hq]; simp
            cases hany : (s.out.take j).any (T3.twins t)
            · rw [hany] at hts
              simp (disch := omega) [go_sem, Mesh.cs, vsV, tsV, hlt, hp', hq', hjt, tcs, wrap64_small]
              have ht1 := ht t u
              simp only [T3.enc, tcs] at ht1
              refine DCall_is ht1 ?_
              simp (disch := omega) [go_sem, Mesh.cs, vsV, tsV, wrap64_small]
              refine ⟨j + 1, by omega, by omega, ?_⟩
              rw [hts]
              simp [t3c_cl, T3.enc, tcs, V.cl, V.cl1, V.cl0]
            · rw [hany] at hts
              simp (disch := omega) [go_sem, Mesh.cs, vsV, tsV, hlt, hjt, wrap64_small]
              exact ⟨j + 1, by omega, by omega, List.any_eq_true.1 (by rw [hts]; rfl), by simp⟩
      · rw [hdg] at hst
        simp only [if_true] at hst
        simp (disch := omega) [go_sem, Mesh.cs, vsV, tsV, wrap64_small]
        refine ⟨k + 1, by omega, by omega, ?_⟩
        rw [hst]
        simp [t3c_cl, T3.enc, tcs, V.cl, V.cl1, V.cl0]
end
end Go.Abs

set_option linter.unusedVariables false
set_option linter.unusedSimpArgs false
namespace Go.Abs

theorem cleanM_check {m : Mesh} (h : m.check = 0) : m.cleanM.check = 0 := by
  obtain ⟨z1, z2, z3, z4⟩ := Mesh.check_zero.1 h
  have hok := cleanL_ok m.deg m.tris
  have hl := hok.sub.length_le
  refine Mesh.check_zero.2 ⟨z1, by simp only [Mesh.cleanM]; omega, z3, ?_⟩
  simp only [Mesh.cleanM, tsOk, List.all_eq_true] at z4 ⊢
  exact fun t ht => z4 t (hok.sub.subset ht)
theorem cleanM_clean (m : Mesh) : cleanL m.cleanM.deg m.cleanM.tris = ⟨m.cleanM.tris, 0, 0⟩ := by
  have hok := cleanL_ok m.deg m.tris
  exact cleanL_clean _ hok.deg hok.twin
theorem cleanR_clean {m : Mesh} (h : m.check = 0) : cleanR m.cleanM = (m.cleanM, 0, 0, 0) := by
  have h2 := cleanM_clean m
  unfold cleanR
  rw [if_pos (cleanM_check h), h2]
  simp only [Mesh.cleanM] at h2 ⊢
  rw [h2]; rfl
theorem cleanR_len (m : Mesh) (hv : m.verts.length ≤ 60) (ht : m.tris.length ≤ 40) : (cleanR m).1.verts.length ≤ 60 ∧ (cleanR m).1.tris.length ≤ 40 := by
  unfold cleanR
  split
  · have hok := cleanL_ok m.deg m.tris
    have hl := hok.sub.length_le
    simp only [Mesh.cleanM]; omega
  · simp [noMesh]
theorem t3_ne (a b : T3) : decide (a ≠ b) = !(a.a == b.a && (a.b == b.b && a.c == b.c)) := by cases a; cases b; rw [Bool.eq_iff_iff]; simp [T3.mk.injEq]

section
variable {P : Program} (hm : P.follows .mixedOrders = true)
include hm

theorem WeldCleans_ok {f ff fc fr fs fd fe fa : FuncId} (hf : FnOk P f (law09_WeldCleans.c ff fc fr fs fd fe fa) law09_WeldCleans.r law09_WeldCleans.n) (hff : FewC P ff) (hc : CleanC P fc) (hr : CleanC P fr) (hs : SameWC P fs) (hd : DegC P fd) (he : DegC P fe) (ha : AwakeC P fa)
    (m : Mesh) (i : Int) (h1 : m.verts.length ≤ 9223372036854775807) (h2 : m.tris.length ≤ 9223372036854775807) : PureC P f [m.enc, .i .i64 i] (· = .b true) := by
  refine pure_of hm hf (Nat.le_of_ble_eq_true rfl) ?_
  unfold law09_WeldCleans.c
  simp [go_sem, Mesh.enc, Mesh.cs]
  refine ACall_is (hff m h1 h2) ?_
  have hl := few_len m
  generalize m.few = m at hl
  have hwl := cleanR_len m hl.1 hl.2
  have hw1 := hc m
  have hr1 := hr m
  have hs1 := hs (cleanR m).1 (by omega) (by omega)
  have hd1 := hd m i
  have he1 := he m i
  generalize cleanR m = r at hw1 hr1 hs1
  generalize m.degI i = b at hd1 he1
  simp only [Mesh.enc, Mesh.cs] at hw1 hr1 hs1 hd1 he1
  simp [go_sem, Mesh.enc, Mesh.cs]
  refine ACall_is hw1 ?_
  simp [go_sem, cleanV, Mesh.enc, Mesh.cs]
  refine ACall_is hr1 ?_
  simp [go_sem, cleanV, Mesh.enc, Mesh.cs]
  refine DCall_is hs1 ?_
  simp [go_sem]
  refine DCall_is hd1 ?_
  simp [go_sem]
  refine DCall_is he1 ?_
  simp [go_sem]
  refine DCall_is ha ?_
  simp [go_sem, law09_WeldCleans.r]

set_option maxHeartbeats 2000000 in
theorem WeldOnce_ok {f ff fc fa fd ft fs : FuncId} (hf : FnOk P f (law09_WeldOnce.c ff fc fa fd ft fs) law09_WeldOnce.r law09_WeldOnce.n) (hff : FewC P ff) (hc : CleanC P fc) (ha : AwakeC P fa) (hd : DegC P fd) (ht : TwinsC P ft) (hs : SameWC P fs)
    (m : Mesh) (h1 : m.verts.length ≤ 9223372036854775807) (h2 : m.tris.length ≤ 9223372036854775807) : PureC P f [m.enc] (· = .b true) := by
  refine pure_of hm hf (Nat.le_of_ble_eq_true rfl) ?_
  unfold law09_WeldOnce.c
  simp [go_sem, Mesh.enc, Mesh.cs]
  refine ACall_is (hff m h1 h2) ?_
  have hl := few_len m
  generalize m.few = m at hl
  have hwl := cleanR_len m hl.1 hl.2
  have hw1 := hc m
  simp [go_sem, Mesh.enc, Mesh.cs]
  refine ACall_is hw1 ?_
  by_cases hz : m.check = 0
  case neg =>
    have he : cleanR m = (noMesh, 0, 0, m.check) := by simp [cleanR, hz]
    rw [he]
    simp [go_sem, cleanV, noMesh, Mesh.enc, Mesh.cs, vsV, tsV, hz]
    refine ACall_is ha ?_
    simp [go_sem, law09_WeldOnce.r]
  have he : cleanR m = (m.cleanM, (((cleanL m.deg m.tris).deg : Nat) : Int), (((cleanL m.deg m.tris).twin : Nat) : Int), 0) := by simp [cleanR, hz]
  rw [he] at hwl ⊢
  have hok := cleanL_ok m.deg m.tris
  have hw2 := hc m.cleanM
  rw [cleanR_clean hz] at hw2
  have hcz := cleanM_check hz
  have hs1 := hs m.cleanM (by simp only at hwl; omega) (by simp only at hwl; omega)
  have hd1 := hd m.cleanM
  have hsub : m.cleanM.tris.Sublist m.tris := hok.sub
  have hdeg : ∀ t ∈ m.cleanM.tris, m.cleanM.deg t = false := hok.deg
  have htw : m.cleanM.tris.Pairwise fun a b => b.twins a = false := hok.twin
  have hsum : m.cleanM.tris.length + (cleanL m.deg m.tris).deg + (cleanL m.deg m.tris).twin = m.tris.length := hok.sum
  have hvl : m.cleanM.verts.length = m.verts.length := rfl
  generalize cleanL m.deg m.tris = s at hsum
  generalize m.cleanM = c at *
  simp only [Mesh.enc, Mesh.cs] at hw2 hs1
  simp [go_sem, cleanV, Mesh.enc, Mesh.cs, vsV, tsV]
  refine AS_loop (α := Nat × Nat) (fun p => p.1 ≤ c.tris.length ∧ p.2 ≤ m.tris.length ∧ (c.tris.drop p.1).Sublist (m.tris.drop p.2))
    (fun p => ⟨[(1, .p 0 1 0 0), (3, .p 1 1 0 0), (4, .i .i64 s.deg), (5, .i .i64 s.twin), (7, .i .i64 p.2), (8, .i .i64 p.1)], [.arr 1 2 [m.cs], .arr 1 2 [c.cs]]⟩)
    (fun p => c.tris.length - p.1) (0, 0) ⟨by omega, by omega, by simpa using hsub⟩ ?_ ?_
  · simp [go_sem, Mesh.cs, vsV, tsV]
  · rintro ⟨i, at0⟩ ⟨hi, hat, hsb⟩
    simp only at hi hat hsb ⊢
    by_cases hil : i = c.tris.length
    · subst hil
      simp [go_sem, Mesh.cs, vsV, tsV]
      refine ACall_is hw2 ?_
      have hs3 : ((c.tris.length : Int) + s.deg + s.twin == (m.tris.length : Int)) = true := by simp; omega
      simp only [vsV, tsV] at hs1
      simp (disch := omega) [go_sem, cleanV, Mesh.enc, Mesh.cs, vsV, tsV, wrap64_small, hs3, hvl]
      refine ACall_is hs1 ?_
      simp [go_sem]
      refine ACall_is ha ?_
      simp [go_sem, law09_WeldOnce.r]
    · have hlt : i < c.tris.length := by omega
      have hp : c.tris[i]? = some c.tris[i] := List.getElem?_eq_getElem hlt
      have htm : c.tris[i] ∈ c.tris := List.getElem_mem _
      have hdr : c.tris.drop i = c.tris[i] :: c.tris.drop (i + 1) := List.drop_eq_getElem_cons hlt
      generalize c.tris[i] = t at hp htm hdr
      obtain ⟨_, hp'⟩ := List.getElem?_eq_some_iff.1 hp
      simp [go_sem, Mesh.cs, vsV, tsV, hlt]
      refine AS_loop (α := Nat) (fun k => k ≤ m.tris.length ∧ (c.tris.drop i).Sublist (m.tris.drop k))
        (fun k => ⟨[(1, .p 0 1 0 0), (3, .p 1 1 0 0), (4, .i .i64 s.deg), (5, .i .i64 s.twin), (7, .i .i64 k), (8, .i .i64 i)], [.arr 1 2 [m.cs], .arr 1 2 [c.cs]]⟩)
        (fun k => m.tris.length - k) at0 ⟨hat, hsb⟩ ?_ ?_
      · simp [go_sem, Mesh.cs, vsV, tsV]
      · rintro k ⟨hk, hsk⟩
        by_cases hkl : k = m.tris.length
        · subst hkl
          rw [hdr, List.drop_length] at hsk
          exact absurd hsk (by simp)
        have hkt : k < m.tris.length := by omega
        have hq : m.tris[k]? = some m.tris[k] := List.getElem?_eq_getElem hkt
        have hdk : m.tris.drop k = m.tris[k] :: m.tris.drop (k + 1) := List.drop_eq_getElem_cons hkt
        generalize m.tris[k] = u at hq hdk
        obtain ⟨_, hq'⟩ := List.getElem?_eq_some_iff.1 hq
        by_cases hut : u = t
        · subst hut
          rw [hdr, hdk] at hsk
          have hsk' := List.cons_sublist_cons.1 hsk
          simp (disch := omega) [go_sem, show ¬ m.tris.length ≤ k by omega, Mesh.cs, vsV, tsV, hkt, hlt, hp, hp', hq, hq', tcs, wrap64_small]
          have hd2 := hd1 i
          simp only [Mesh.enc, Mesh.cs, vsV, tsV] at hd2
          refine ACall_is hd2 ?_
          rw [degI_get hcz hp, hdeg u htm]
          simp (disch := omega) [go_sem, Mesh.cs, vsV, tsV, wrap64_small]
          refine AS_loop (α := Nat) (fun j => j ≤ i)
            (fun j => ⟨[(1, .p 0 1 0 0), (3, .p 1 1 0 0), (4, .i .i64 s.deg), (5, .i .i64 s.twin), (7, .i .i64 (k + 1 : Nat)), (8, .i .i64 i), (9, .i .i64 j)], [.arr 1 2 [m.cs], .arr 1 2 [c.cs]]⟩)
            (fun j => i - j) 0 (Nat.zero_le _) ?_ ?_
          · simp [go_sem, Mesh.cs, vsV, tsV]
          · intro j hj
            by_cases hji : j = i
            · subst hji
              simp (disch := omega) [go_sem, Mesh.cs, vsV, tsV, wrap64_small]
              exact ⟨j + 1, k + 1, ⟨by omega, by omega, hsk'⟩, by omega, by simp, by simp⟩
            · have hjt : j < i := by omega
              have hjc : j < c.tris.length := by omega
              have hr : c.tris[j]? = some c.tris[j] := List.getElem?_eq_getElem hjc
              have htw' := List.pairwise_iff_getElem.1 htw j i hjc hlt hjt
              rw [hp'] at htw'
              generalize c.tris[j] = v at hr htw'
              obtain ⟨_, hr'⟩ := List.getElem?_eq_some_iff.1 hr
              have ht1 := ht u v
              rw [htw'] at ht1
              simp only [T3.enc, tcs] at ht1
              simp (disch := omega) [go_sem, Mesh.cs, vsV, tsV, hkt, hlt, hjt, hjc, hp, hp', hr, hr', tcs, wrap64_small]
              refine DCall_is ht1 ?_
              simp (disch := omega) [go_sem, Mesh.cs, vsV, tsV, wrap64_small]
              exact ⟨j + 1, by omega, by omega, by simp⟩
        · have hsk' : (c.tris.drop i).Sublist (m.tris.drop (k + 1)) := by
            rw [hdr, hdk] at hsk
            rw [hdr]
            cases hsk with
            | cons _ h => exact h
            | cons_cons _ h => exact absurd rfl hut
          have hne := t3_ne u t
          rw [decide_eq_true hut] at hne
          simp (disch := omega) [go_sem, Mesh.cs, vsV, tsV, hkt, hlt, hp, hp', hq, hq', tcs, wrap64_small, ← hne]
          exact ⟨k + 1, ⟨by omega, hsk'⟩, by omega, by simp⟩
end
end Go.Abs

