/- What moving and turning a mesh does to values. -/
import Derived.Test.YtoppidobgkgiiaaGoShpN
import Derived.Test.YtoppidobgkgiiaaGoShpG
import Derived.Test.YtoppidobgkgiiaaGoShpC
set_option linter.unusedVariables false
set_option linter.unusedSimpArgs false
namespace Go.Abs

def turn1 (v : V3) : V3 := ⟨-v.y, v.x, v.z⟩
def turnK : Nat → V3 → V3
  | 0, v => v
  | k + 1, v => turn1 (turnK k v)
theorem turn1_valid {v : V3} (h : v.valid = true) : (turn1 v).valid = true := by
  have := V3.valid_iff.1 h
  rw [V3.valid_iff]; simp only [turn1]; omega
theorem turnK_valid {v : V3} (h : v.valid = true) : ∀ k, (turnK k v).valid = true
  | 0 => h
  | k + 1 => turn1_valid (turnK_valid h k)
def quarter (n : Int) : Nat := ((n.tmod 4 + 4).tmod 4).toNat
theorem quarter_lt (n : Int) : ((n.tmod 4 + 4).tmod 4) = (quarter n : Int) ∧ quarter n < 4 := by
  have h1 := Int.tmod_lt_of_pos n (show (0 : Int) < 4 by omega)
  have h2 : -4 < n.tmod 4 := by
    have h3 := Int.tmod_lt_of_pos (-n) (show (0 : Int) < 4 by omega)
    rw [Int.neg_tmod] at h3
    omega
  have h3 := Int.tmod_nonneg (a := n.tmod 4 + 4) 4 (by omega)
  have h4 := Int.tmod_lt_of_pos (n.tmod 4 + 4) (show (0 : Int) < 4 by omega)
  simp only [quarter]; omega

def moveV (m : Mesh) (d : V3) : V :=
  if m.check ≠ 0 then mesV noMesh 1 else if vsOk (m.verts.map (·.add d)) = false then mesV noMesh 8 else mesV (m.mapV (·.add d)) 0
def MoveC (P : Program) (f : FuncId) : Prop := ∀ (m : Mesh) (d : V3), d.inR = true → CallIs P f [m.enc, d.enc] (moveV m d)
def turnV (m : Mesh) (n : Int) : V := if m.check ≠ 0 then mesV noMesh 1 else mesV (m.mapV (turnK (quarter n))) 0
def TurnC (P : Program) (f : FuncId) : Prop := ∀ (m : Mesh) (n : Int), inI n = true → CallIs P f [m.enc, .i .i64 n] (turnV m n)
def CheckedC (P : Program) (f : FuncId) : Prop := ∀ m : Mesh, m.verts.length ≤ 1000000 → CallIs P f [m.enc] (if vsOk m.verts = false then mesV noMesh 8 else mesV m 0)

section
variable {P : Program} (hm : P.follows .mixedOrders = true)
include hm

theorem shapes_checked_ok {f ff : FuncId} (hf : FnOk P f (shapes_checked.c ff) shapes_checked.r shapes_checked.n) (hfit : FitsVC P ff) : CheckedC P f := by
  intro m hml
  cases h1 : vsOk m.verts
  · rw [if_pos rfl]
    refine CallIs.res (r := .t [.a [.nil, .nil], .i .i64 8]) ?_ (noMesh_le 8)
    refine PureC.is (pure_of hm hf (Nat.le_of_ble_eq_true rfl) ?_) rfl
    unfold shapes_checked.c
    simp [go_sem, Mesh.enc, Mesh.cs]
    refine ACall_is (hfit m.verts hml) ?_
    simp [go_sem, h1, shapes_checked.r]
  rw [if_neg (by simp)]
  refine PureC.is (pure_of hm hf (Nat.le_of_ble_eq_true rfl) ?_) rfl
  unfold shapes_checked.c
  simp [go_sem, Mesh.enc, Mesh.cs]
  refine ACall_is (hfit m.verts hml) ?_
  simp [go_sem, h1, shapes_checked.r, mesV, Mesh.enc, Mesh.cs, vsV, tsV]

theorem Turn_1_ok {f : FuncId} (hf : FnOk P f shapes_Turn_1.c shapes_Turn_1.r shapes_Turn_1.n) {v : V3} (h : v.valid = true) : CallIs P f [v.enc] (turn1 v).enc := by
  have := V3.valid_iff.1 h
  refine PureC.is (pure_of hm hf (Nat.le_of_ble_eq_true rfl) ?_) rfl
  unfold shapes_Turn_1.c
  simp (disch := omega) [go_sem, V3.enc, V3.cs, shapes_Turn_1.r, turn1, wrap64_small]
theorem Turn_2_ok {f : FuncId} (hf : FnOk P f shapes_Turn_2.c shapes_Turn_2.r shapes_Turn_2.n) (v : V3) : CallIs P f [v.enc] v.enc := by
  refine PureC.is (pure_of hm hf (Nat.le_of_ble_eq_true rfl) ?_) rfl
  unfold shapes_Turn_2.c
  simp [go_sem, V3.enc, V3.cs, shapes_Turn_2.r]

theorem Move_1_ok {f fp : FuncId} (hf : FnOk P f (shapes_Move_1.c fp) shapes_Move_1.r shapes_Move_1.n) (hp : PlusC P fp) (v d : V3) {h : List O} {id : Nat} (ho : h[id]? = some (.arr 1 3 [d.cs])) :
    ACall P f [v.enc, .p id 1 0 0] h (fun r h' => r = (v.plus d).enc ∧ h' = h) := by
  have hlt : id < h.length := (List.getElem?_eq_some_iff.1 ho).1
  have hap : ∀ l : List O, (h ++ l)[id]? = some (.arr 1 3 [d.cs]) := fun l => by rw [List.getElem?_append_left hlt]; exact ho
  refine ACall_closed fun hcl => ?_
  refine call_intro hm hf (Nat.le_of_ble_eq_true rfl) ?_
  unfold shapes_Move_1.c
  simp [go_sem, V3.enc, vcs, app_get_r, app_get_0, app_set_r, app_set_0, hap]
  refine ACall_is (hp v d) ?_
  simp [go_sem, V3.enc, vcs, app_get_r, app_get_0, app_set_r, app_set_0, hap]
  refine ⟨[(v.plus d).enc], by simp [shapes_Move_1.r, go_sem, app_get_r, V3.enc, vcs], by simp [V3.enc], h, by simp [V3.enc, vcs, V.cl, V.cl1, V.cl0], Nat.le_refl _, by omega, ?_, rfl, rfl⟩
  have := WeakH_app (n := h.length) (a := [.arr 1 3 [v.cs], .arr 1 3 [(v.plus d).cs]]) (b := []) (hcl h.length (Nat.le_refl _)) trivial
  rw [List.append_nil] at this
  exact this

set_option maxHeartbeats 4000000 in
theorem shapes_Move_ok {f fk fn f1 fch fck : FuncId} (hf : FnOk P f (shapes_Move.c fk fn f1 fch fck) shapes_Move.r shapes_Move.n) (hk : CheckC P fk) (hnear : NearC P fn)
    {fcv fct fp : FuncId} (hfch : FnOk P fch (shapes_change.c fcv fct) shapes_change.r shapes_change.n) (hcv : CloneC P fcv 3) (hct : CloneC P fct 3) (hf1 : FnOk P f1 (shapes_Move_1.c fp) shapes_Move_1.r shapes_Move_1.n) (hcal : callable P f1 = true) (hp : PlusC P fp) (hck : CheckedC P fck) : MoveC P f := by
  intro m d hd
  by_cases h1 : m.check = 0
  case neg =>
    have : moveV m d = mesV noMesh 1 := by simp [moveV, h1]
    rw [this]
    refine CallIs.res (r := .t [.a [.nil, .nil], .i .i64 1]) ?_ (noMesh_le 1)
    refine PureC.is (pure_of hm hf (Nat.le_of_ble_eq_true rfl) ?_) rfl
    unfold shapes_Move.c
    simp [go_sem, Mesh.enc, Mesh.cs, V3.enc, V3.cs]
    refine ACall_is (hk m) ?_
    simp [go_sem, h1, shapes_Move.r]
  obtain ⟨z1, z2, z3, z4⟩ := Mesh.check_zero.1 h1
  by_cases h2 : 0 < m.verts.length ∧ d.within 131072 = false
  · have : moveV m d = mesV noMesh 8 := by
      have : vsOk (m.verts.map (·.add d)) = false := by
        cases hvs : m.verts with
        | nil => rw [hvs] at h2; simp at h2
        | cons v r =>
          rw [Bool.eq_false_iff]
          intro h3
          simp only [vsOk, List.map_cons, List.all_cons, Bool.and_eq_true] at h3
          have hv : v.valid = true := vsOk_get z3 (k := 0) (by rw [hvs]; rfl)
          have := within_of_add hv h3.1
          rw [this] at h2; simp at h2
      simp [moveV, h1, this]
    rw [this]
    refine CallIs.res (r := .t [.a [.nil, .nil], .i .i64 8]) ?_ (noMesh_le 8)
    refine PureC.is (pure_of hm hf (Nat.le_of_ble_eq_true rfl) ?_) rfl
    unfold shapes_Move.c
    simp [go_sem, Mesh.enc, Mesh.cs, V3.enc, V3.cs]
    refine ACall_is (hk m) ?_
    simp [go_sem, h1, vsV, h2.1]
    refine ACall_is (hnear d) ?_
    simp [go_sem, h2.2, shapes_Move.r]
  have hg : ∀ v ∈ m.verts, v.plus d = v.add d := by
    intro v hv
    have hne : 0 < m.verts.length := List.length_pos_of_mem hv
    have hw : d.within 131072 = true := by
      cases hd2 : d.within 131072
      · exact absurd ⟨hne, hd2⟩ h2
      · rfl
    obtain ⟨i, hi⟩ := List.getElem?_of_mem hv
    exact plus_add (vsOk_get z3 hi) hw
  have hmap : m.verts.map (fun v => v.plus d) = m.verts.map (fun v => v.add d) := List.map_congr_left hg
  have hres : moveV m d = if vsOk (m.mapV (·.add d)).verts = false then mesV noMesh 8 else mesV (m.mapV (·.add d)) 0 := by
    unfold moveV; rw [if_neg (by simp [h1])]; rfl
  have hexm : ∃ m' e, moveV m d = mesV m' e := by
    rw [hres]; split
    · exact ⟨_, _, rfl⟩
    · exact ⟨_, _, rfl⟩
  have hck' := hck (m.mapV (·.add d)) (by simp [Mesh.mapV]; omega)
  rw [← hres] at hck'
  obtain ⟨m', e, hme⟩ := hexm
  rw [hme] at hck' ⊢
  have hchg := change_own hm (h := [.arr 1 2 [m.cs], .arr 1 3 [d.cs], .arr 1 2 [[.nil, .nil]]]) (T := [1]) (caps := [.p 1 1 0 0]) (g := fun v => v.plus d) hfch m z1 z2 hcv hct hcal (by simp)
    (by intro n hn; simp [V.cl, V.cl1, V.cl0]; simp at hn; omega)
    (by intro n hn o ho; simp at ho; rcases ho with rfl | rfl | rfl <;> simp [O.cl, Mesh.cs, vsV, tsV, vcs, or_imp, forall_and, V.cl, V.cl1, V.cl0])
    (fun v hv h2 hag => Move_1_ok hm hf1 hp v d (by rw [hag 1 (by simp)]; rfl))
  rw [hmap] at hchg
  refine PureC.is (pure_of hm hf (Nat.le_of_ble_eq_true rfl) ?_) rfl
  unfold shapes_Move.c
  simp [go_sem, Mesh.enc, Mesh.cs, V3.enc, V3.cs]
  refine ACall_is (hk m) ?_
  by_cases h3 : 0 < m.verts.length
  case pos =>
    have hw : d.within 131072 = true := by
      cases hd2 : d.within 131072
      · exact absurd ⟨h3, hd2⟩ h2
      · rfl
    simp [go_sem, h1, vsV, h3]
    refine ACall_is (hnear d) ?_
    simp [go_sem, hw]
    refine ACall_to hchg ?_
    simp [go_sem]
    refine ACall_frz (vs := [(m.mapV (·.add d)).enc]) ?_ hck' ?_
    · simp [go_sem, frzAll, frz, frz0, Mesh.mapV, Mesh.enc, Mesh.cs, vsV, tsV, vcs_isD, tcs_isD]
    simp [go_sem, shapes_Move.r, mesV, Mesh.enc, Mesh.cs, vsV, tsV]
  case neg =>
    simp [go_sem, h1, vsV, h3]
    refine ACall_to hchg ?_
    simp [go_sem]
    refine ACall_frz (vs := [(m.mapV (·.add d)).enc]) ?_ hck' ?_
    · simp [go_sem, frzAll, frz, frz0, Mesh.mapV, Mesh.enc, Mesh.cs, vsV, tsV, vcs_isD, tcs_isD]
    simp [go_sem, shapes_Move.r, mesV, Mesh.enc, Mesh.cs, vsV, tsV]
end
end Go.Abs

