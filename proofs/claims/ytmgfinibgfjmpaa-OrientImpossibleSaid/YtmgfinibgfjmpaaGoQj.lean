/- Part of the library on which the proof stands: an abstract machine, its values and its soundness against the model; or what functions of the program do to such values. -/
import Derived.Test.YtmgfinibgfjmpaaGoQf
import Derived.Test.YtmgfinibgfjmpaaGoQd
import Derived.Test.YtmgfinibgfjmpaaGoClone
import Derived.Test.YtmgfinibgfjmpaaGoOw
import Derived.Test.YtmgfinibgfjmpaaGoOriA
set_option linter.unusedVariables false
set_option linter.unusedSimpArgs false
namespace Go.Abs

theorem Fl.check {vs : List V3} {ts us : List T3} (h : Fl ts us) (hz : (Mesh.mk vs ts).check = 0) : (Mesh.mk vs us).check = 0 := by
  obtain ⟨z1, z2, z3, z4⟩ := Mesh.check_zero.1 hz
  refine Mesh.check_zero.2 ⟨z1, by rw [show (Mesh.mk vs us).tris.length = us.length from rfl, h.len]; exact z2, z3, ?_⟩
  simp only [tsOk, List.all_eq_true]
  intro t ht
  obtain ⟨i, hi⟩ := List.getElem?_of_mem ht
  have hil := (List.getElem?_eq_some_iff.1 hi).1
  have hil2 : i < ts.length := by rw [← h.len]; exact hil
  have hok := tAt_ok z4 hil2
  rw [tAt_get hil] at hi
  obtain rfl := Option.some.inj hi
  rcases h.tat hil2 with h1 | h1
  · rw [h1]; exact hok
  · rw [h1]; exact T3.rev_ok hok
theorem Fl.trans {ts us vs : List T3} (h : Fl ts us) (k : Fl us vs) : Fl ts vs where
  len := by rw [k.len, h.len]
  at_ i t u h1 h2 := by
    have hi := (List.getElem?_eq_some_iff.1 h1).1
    have hu : i < us.length := by rw [h.len]; exact hi
    have hv : i < vs.length := by rw [k.len]; exact hu
    rw [tAt_get hi] at h1
    rw [tAt_get hv] at h2
    obtain rfl := Option.some.inj h1
    obtain rfl := Option.some.inj h2
    rcases h.tat hi with h3 | h3 <;> rcases k.tat hu with h4 | h4
    · exact .inl (by rw [h4, h3])
    · exact .inr (by rw [h4, h3])
    · exact .inr (by rw [h4, h3])
    · exact .inl (by rw [h4, h3]; rfl)
theorem good_self {ts : List T3} {L : List Int} (hc : Coh ts) : Good ts ts L := ⟨Fl.refl ts, hc, fun _ _ _ => rfl⟩
theorem oriR_err {m : Mesh} (hz : m.check = 0) (h : orientL m.tris = none) : oriR m = (⟨[], []⟩, 0, 13) := by
  unfold oriR; simp only [if_neg (show ¬ m.check ≠ 0 by simpa using hz), h]
theorem oriR_ok {m : Mesh} (hz : m.check = 0) {us : List T3} (h : orientL m.tris = some us) : oriR m = ((⟨m.verts, us⟩ : Mesh), (difN m.tris us : Int), (0 : Int)) := by
  unfold oriR; simp only [if_neg (show ¬ m.check ≠ 0 by simpa using hz), h]
theorem count_fl {ts us : List T3} (h : Fl ts us) (e : P2) : (alluses us).count e + (alluses us).count e.rev = (alluses ts).count e + (alluses ts).count e.rev := by
  have hl := h.len
  induction ts generalizing us with
  | nil =>
    have : us = [] := List.length_eq_zero_iff.1 hl
    subst this; rfl
  | cons t ts ih =>
    cases us with
    | nil => simp at hl
    | cons u us =>
      have h0 := h.at_ 0 t u rfl rfl
      have ht : Fl ts us := ⟨by simpa using hl, fun i a b h1 h2 => h.at_ (i + 1) a b (by simpa using h1) (by simpa using h2)⟩
      have hi := ih ht ht.len
      have hc : (edgesOf u).count e + (edgesOf u).count e.rev = (edgesOf t).count e + (edgesOf t).count e.rev := by
        rcases h0 with rfl | rfl
        · rfl
        · rw [edgesOf_rev, List.count_reverse, List.count_reverse, count_rev, count_rev, rev_rev]
          omega
      show (edgesOf u ++ alluses us).count e + (edgesOf u ++ alluses us).count e.rev = (edgesOf t ++ alluses ts).count e + (edgesOf t ++ alluses ts).count e.rev
      rw [List.count_append, List.count_append, List.count_append, List.count_append]
      omega
/-- An edge that is used more than twice cannot be oriented. -/
theorem use_two {m : Mesh} (hz : m.check = 0) {us : List T3} (h : orientL m.tris = some us) (e : P2) : m.use e + m.use e.rev ≤ 2 := by
  obtain ⟨L, hL⟩ := lab_ex m.tris
  have hg := orientL_good hL h
  have hn := coh_iff.2 hg.coh
  have h1 := List.nodup_iff_count.1 hn e
  have h2 := List.nodup_iff_count.1 hn e.rev
  have h3 := count_fl hg.fl e
  unfold Mesh.use
  rw [if_pos hz, if_pos hz]
  omega
end Go.Abs
set_option linter.unusedVariables false
set_option linter.unusedSimpArgs false
namespace Go.Abs

def Mesh.coh (m : Mesh) : Bool := decide (m.check = 0) && cohB m.tris
def Mesh.smallO (m : Mesh) : Bool := decide (m.tris.length ≤ 40) && decide (m.verts.length ≤ 60)
def SmallOC (P : Program) (f : FuncId) : Prop := ∀ m : Mesh, CallIs P f [m.enc] (.b m.smallO)

section
variable {P : Program} (hm : P.follows .mixedOrders = true)
include hm

theorem law11_Small_ok {f : FuncId} (hf : FnOk P f law11_Small.c law11_Small.r law11_Small.n) : SmallOC P f := by
  intro m
  refine PureC.is (pure_of hm hf (Nat.le_of_ble_eq_true rfl) ?_) rfl
  unfold law11_Small.c
  simp +contextual -implicitDefEqProofs [go_sem, Mesh.enc, Mesh.cs, vsV, tsV, law11_Small.r, Mesh.smallO]
  congr 1 <;> rw [decide_eq_decide] <;> omega

end
end Go.Abs
set_option linter.unusedVariables false
set_option linter.unusedSimpArgs false
namespace Go.Abs

theorem smallO_len {m : Mesh} (h : m.smallO = true) : m.tris.length ≤ 40 ∧ m.verts.length ≤ 60 := by simpa [Mesh.smallO] using h
section
variable {P : Program} (hm : P.follows .mixedOrders = true)
include hm

end
end Go.Abs
set_option linter.unusedVariables false
set_option linter.unusedSimpArgs false
namespace Go.Abs

/-- What Orient's result is. -/
theorem oriR_cases (m : Mesh) : ((oriR m).2.2 ≠ 0 ∧ oriR m = (⟨[], []⟩, 0, (oriR m).2.2) ∧ m.coh = false ∧ (m.check = 0 → (oriR m).2.2 = 13)) ∨ (m.check = 0 ∧ ∃ us, orientL m.tris = some us ∧ oriR m = (⟨m.verts, us⟩, (difN m.tris us : Int), 0)) := by
  by_cases hz : m.check = 0
  case neg =>
    have : oriR m = (⟨[], []⟩, 0, m.check) := by unfold oriR; rw [if_pos hz]
    rw [this]
    exact .inl ⟨hz, rfl, by unfold Mesh.coh; simp [hz], fun h => absurd h hz⟩
  cases h : orientL m.tris with
  | none =>
    rw [oriR_err hz h]
    refine .inl ⟨by simp, rfl, ?_, fun _ => rfl⟩
    unfold Mesh.coh
    cases hc : cohB m.tris with
    | false => simp
    | true =>
      obtain ⟨L, hL⟩ := lab_ex m.tris
      rw [orientL_some hL (good_self (cohB_iff.1 hc))] at h
      simp at h
  | some us => exact .inr ⟨hz, us, rfl, oriR_ok hz h⟩
theorem use_len {m : Mesh} (e : P2) : 0 ≤ m.use e ∧ m.use e ≤ 12288 := by
  unfold Mesh.use
  by_cases hz : m.check = 0
  · rw [if_pos hz]
    have h1 : (alluses m.tris).count e ≤ (alluses m.tris).length := List.count_le_length
    have h2 := alluses_len m.tris m.tris.length
    rw [List.take_length] at h2
    have h3 := (Mesh.check_zero.1 hz).2.1
    omega
  · rw [if_neg hz]; omega
section
variable {P : Program} (hm : P.follows .mixedOrders = true)
include hm

set_option maxRecDepth 20000 in
set_option maxHeartbeats 4000000 in
theorem OrientImpossible_ok {f fs fc fa fo fu : FuncId} (hf : FnOk P f (law11_OrientImpossible.c fs fc fa fo fu) law11_OrientImpossible.r law11_OrientImpossible.n) (hs : SmallOC P fs) (hc : CheckC P fc) (ha : AwakeC P fa) (ho : OrientC P fo) (hu : UsesC P fu)
    (m : Mesh) : PureC P f [m.enc] (· = .b true) := by
  refine pure_of hm hf (Nat.le_of_ble_eq_true rfl) ?_
  unfold law11_OrientImpossible.c
  have hs1 := hs m
  have ho1 := ho m
  have hc1 := hc m
  simp only [Mesh.enc, Mesh.cs] at hs1 ho1 hc1
  simp [go_sem, Mesh.enc, Mesh.cs]
  refine ACall_is hs1 ?_
  cases h : m.smallO
  · simp [go_sem]
    refine ACall_is ha ?_
    simp [go_sem, law11_OrientImpossible.r]
  simp [go_sem]
  refine ACall_is hc1 ?_
  by_cases hz : m.check = 0
  case neg =>
    have hz' : (m.check != 0) = true := by simpa using hz
    simp [go_sem, hz, hz']
    refine ACall_is ha ?_
    simp [go_sem, law11_OrientImpossible.r]
  have hl := smallO_len h
  simp [go_sem, hz]
  refine ACall_is ho1 ?_
  have huse : (oriR m).2.2 = 13 ∨ ((oriR m).2.2 = 0 ∧ ∀ e : P2, m.use e + m.use e.rev ≤ 2) := by
    rcases oriR_cases m with ⟨_, _, _, h4⟩ | ⟨_, us, h2, h1⟩
    · exact .inl (h4 hz)
    · exact .inr ⟨by rw [h1], use_two hz h2⟩
  obtain ⟨r, hr⟩ : ∃ r, r = oriR m := ⟨_, rfl⟩
  rw [← hr] at huse ⊢
  obtain ⟨x, n, er⟩ := r
  simp only at huse
  simp [go_sem, mieV, Mesh.enc, Mesh.cs]
  refine AS_loop (α := Nat) (fun k => k ≤ m.tris.length) (fun k => ⟨[(1, .p 0 1 0 0), (5, .i .i64 er), (6, .i .i64 k)], [.arr 1 2 [m.cs]]⟩) (fun k => m.tris.length - k) 0 (Nat.zero_le _) ?_ ?_
  · simp [go_sem, Mesh.cs, vsV, tsV]
  · intro k hk
    by_cases hkl : k = m.tris.length
    · subst hkl
      simp [go_sem, Mesh.cs, vsV, tsV]
      refine ACall_is ha ?_
      simp [go_sem, law11_OrientImpossible.r]
    · have hlt : k < m.tris.length := by omega
      have hp := tAt_get hlt
      generalize tAt m.tris k = t at hp
      obtain ⟨_, hp'⟩ := List.getElem?_eq_some_iff.1 hp
      have hu1 := hu m ⟨t.a, t.b⟩
      have hub := use_len (m := m) ⟨t.a, t.b⟩
      have hub2 := use_len (m := m) (P2.rev ⟨t.a, t.b⟩)
      have huse2 : er = 13 ∨ (er = 0 ∧ m.use ⟨t.a, t.b⟩ + m.use (P2.rev ⟨t.a, t.b⟩) ≤ 2) := by
        rcases huse with h | ⟨h1, h2⟩
        · exact .inl h
        · exact .inr ⟨h1, h2 _⟩
      simp only [Mesh.enc, Mesh.cs, P2.enc, P2.cs] at hu1
      generalize m.use ⟨t.a, t.b⟩ = u1 at *
      generalize m.use (P2.rev ⟨t.a, t.b⟩) = u2 at *
      simp (disch := omega) [go_sem, Mesh.cs, vsV, tsV, hlt, hp, hp', tcs, wrap64_small]
      refine DCall_is hu1 ?_
      cases e1 : (t.a != t.b)
      · simp (disch := omega) [go_sem, Mesh.cs, vsV, tsV, hlt, hp, hp', tcs, e1, wrap64_small]
        exact ⟨k + 1, by omega, by omega, by omega⟩
      · rcases huse2 with rfl | ⟨rfl, huse2⟩
        · cases e2 : decide (2 < u1 + u2)
          · simp (disch := omega) [go_sem, Mesh.cs, vsV, tsV, hlt, hp, hp', tcs, e1, e2, wrap64_small]
            exact ⟨k + 1, by omega, by omega, by omega⟩
          · simp (disch := omega) [go_sem, Mesh.cs, vsV, tsV, hlt, hp, hp', tcs, e1, e2, wrap64_small]
            exact ⟨k + 1, by omega, by omega, by omega⟩
        · have e2 : decide (2 < u1 + u2) = false := by simp; omega
          simp (disch := omega) [go_sem, Mesh.cs, vsV, tsV, hlt, hp, hp', tcs, e1, e2, wrap64_small]
          exact ⟨k + 1, by omega, by omega, by omega⟩
end
end Go.Abs
