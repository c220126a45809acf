/- Part of the library on which the proof stands: an abstract machine, its values and its soundness against the model; or what functions of the program do to such values. -/
import Derived.Test.YtmgfinibgfjmpaaGoQa
import Derived.Test.YtmgfinibgfjmpaaGoQc
import Derived.Test.YtmgfinibgfjmpaaGoClone
import Derived.Test.YtmgfinibgfjmpaaGoOriA
import Derived.Test.YtmgfinibgfjmpaaGoOw
set_option linter.unusedVariables false
set_option linter.unusedSimpArgs false
namespace Go.Abs

def sameB (a b : T3) : Bool := (edgesOf a).any fun x => (edgesOf b).any fun y => decide (x = y)
def oppB (a b : T3) : Bool := (edgesOf a).any fun x => (edgesOf b).any fun y => decide (x = y.rev)
theorem sameB_iff {a b : T3} : sameB a b = true ↔ ∃ e ∈ edgesOf a, e ∈ edgesOf b := by
  unfold sameB
  simp only [List.any_eq_true, decide_eq_true_eq]
  constructor
  · rintro ⟨x, hx, y, hy, rfl⟩; exact ⟨x, hx, hy⟩
  · rintro ⟨x, hx, hy⟩; exact ⟨x, hx, x, hy, rfl⟩
theorem oppB_iff {a b : T3} : oppB a b = true ↔ ∃ e ∈ edgesOf a, e.rev ∈ edgesOf b := by
  unfold oppB
  simp only [List.any_eq_true, decide_eq_true_eq]
  constructor
  · rintro ⟨x, hx, y, hy, rfl⟩; exact ⟨y.rev, hx, hy⟩
  · rintro ⟨x, hx, hy⟩; exact ⟨x, hx, x.rev, hy, rfl⟩
theorem OrI.bad {ts us : List T3} {L X : List Int} {n : Nat} (h : OrI ts us L X n) {k : Nat} (hk : k < ts.length) (hno : ∀ vs, ¬ Good ts vs L) : OrI ts us L (X ++ [(k : Int)]) n :=
  ⟨h.fl, fun i hi hn => h.new i hi fun hh => hn (mem_snoc.2 (.inl hh)), h.first, by have := h.num; simp; omega, fun vs hv => absurd hv (hno vs)⟩
theorem OrI.spread {ts us : List T3} {L X : List Int} {n : Nat} (h : OrI ts us L X n) {i k : Nat} (hi : i < ts.length) (hk : k < ts.length) (hix : (i : Int) ∈ X) (hx : (k : Int) ∉ X) (hLk : L[k]? ≠ some (k : Int))
    (hb : (sameB (tAt us i) (tAt us k) || oppB (tAt us i) (tAt us k)) = true) :
    ∃ n', OrI ts (if (sameB (tAt us i) (tAt us k) && !oppB (tAt us i) (tAt us k)) = true then us.set k (tAt us k).rev else us) L (X ++ [(k : Int)]) n' := by
  cases hs : sameB (tAt us i) (tAt us k) <;> cases ho : oppB (tAt us i) (tAt us k)
  · rw [hs, ho] at hb; simp at hb
  · rw [if_neg (by simp)]
    obtain ⟨e, h1, h2⟩ := oppB_iff.1 ho
    refine ⟨n, h.keep hi hk hix hx h1 (fun hh => ?_) (b := e.rev) (by rw [← h.new k hk hx]; exact h2) (rev_und e)⟩
    rw [sameB_iff.2 ⟨e, h1, hh⟩] at hs
    simp at hs
  · rw [if_pos (by simp)]
    obtain ⟨e, h1, h2⟩ := sameB_iff.1 hs
    exact ⟨n + 1, h.turn hi hk hix hx hLk h1 h2⟩
  · rw [if_neg (by simp)]
    refine ⟨n, h.bad hk fun vs hv => ?_⟩
    obtain ⟨h1, _⟩ := h.good vs hv
    obtain ⟨e, e1, e2⟩ := sameB_iff.1 hs
    obtain ⟨e', e3, e4⟩ := oppB_iff.1 ho
    have hvi := h1 i hi hix
    have hvl := hv.fl.len
    have huk := h.new k hk hx
    rcases hv.fl.tat hk with h3 | h3
    · have hik := hv.coh i k e (by omega) (by omega) (by rw [← hvi]; exact e1) (by rw [h3, ← huk]; exact e2)
      subst hik; exact hx hix
    · have hik := hv.coh i k e' (by omega) (by omega) (by rw [← hvi]; exact e3) (by rw [h3, mem_edges_rev, ← huk]; exact e4)
      subst hik; exact hx hix
/-- While a shell's triangles are looked at, pair by pair. -/
structure RI (ts us : List T3) (L X0 sh Y0 Y : List Int) (i k : Nat) : Prop where
  ori : ∃ n, OrI ts us L (X0 ++ Y) n
  nodup : Y.Nodup
  sub : ∀ v ∈ Y, v ∈ sh
  old : ∀ v ∈ Y0, v ∈ Y
  near : ∀ (i' k' : Nat) (v w : Int), (i' < i ∨ (i' = i ∧ k' < k)) → sh[i']? = some v → sh[k']? = some w → v ∈ Y0 → adjI ts v.toNat w.toNat → w ∈ Y
theorem RI.row {ts us : List T3} {L X0 sh Y0 Y : List Int} {i : Nat} (h : RI ts us L X0 sh Y0 Y i sh.length) : RI ts us L X0 sh Y0 Y (i + 1) 0 :=
  ⟨h.ori, h.nodup, h.sub, h.old, fun i' k' v w hik hv hw h0 ha => by
    have hk := (List.getElem?_eq_some_iff.1 hw).1
    exact h.near i' k' v w (by omega) hv hw h0 ha⟩
theorem RI.skip {ts us : List T3} {L X0 sh Y0 Y : List Int} {i k : Nat} (h : RI ts us L X0 sh Y0 Y i k) (hs : ∀ v w : Int, sh[i]? = some v → sh[k]? = some w → v ∈ Y0 → adjI ts v.toNat w.toNat → w ∈ Y) : RI ts us L X0 sh Y0 Y i (k + 1) :=
  ⟨h.ori, h.nodup, h.sub, h.old, fun i' k' v w hik hv hw h0 ha => by
    by_cases hh : i' = i ∧ k' = k
    · obtain ⟨rfl, rfl⟩ := hh
      exact hs v w hv hw h0 ha
    · exact h.near i' k' v w (by omega) hv hw h0 ha⟩
theorem RI.add {ts us us' : List T3} {L X0 sh Y0 Y : List Int} {i k : Nat} {w : Int} (h : RI ts us L X0 sh Y0 Y i k) (hw : sh[k]? = some w) (hn : w ∉ Y) (ho : ∃ n, OrI ts us' L (X0 ++ Y ++ [w]) n) : RI ts us' L X0 sh Y0 (Y ++ [w]) i (k + 1) :=
  ⟨by rwa [List.append_assoc] at ho, by
    rw [List.nodup_append]
    exact ⟨h.nodup, by simp, fun a ha b hb => by simp at hb; subst hb; rintro rfl; exact hn ha⟩, fun v hv => by
    rcases List.mem_append.1 hv with hv | hv
    · exact h.sub v hv
    · simp at hv; subst hv; exact List.mem_of_getElem? hw, fun v hv => List.mem_append.2 (.inl (h.old v hv)), fun i' k' v w' hik hv hw' h0 ha => by
    by_cases hh : i' = i ∧ k' = k
    · obtain ⟨rfl, rfl⟩ := hh
      rw [hw] at hw'
      obtain rfl := Option.some.inj hw'
      simp
    · exact List.mem_append.2 (.inl (h.near i' k' v w' (by omega) hv hw' h0 ha))⟩
/-- A round reaches one more triangle, if there is one. -/
theorem RI.more {ts us : List T3} {L X0 sh Y0 Y : List Int} {q : Nat} (hL : IsLab ts L) (hsh : sh = shK L q ts.length) (hq : q < ts.length) (hLq : L[q]? = some (q : Int)) (hn0 : Y0.Nodup) (hq0 : (q : Int) ∈ Y0)
    (h : RI ts us L X0 sh Y0 Y sh.length 0) : (∀ w ∈ sh, w ∈ Y0) ∨ Y0.length + 1 ≤ Y.length := by
  by_cases hall : ∀ w ∈ sh, w ∈ Y0
  · exact .inl hall
  · refine .inr ?_
    have hex : ∃ v w : Int, v ∈ Y0 ∧ w ∈ sh ∧ w ∉ Y0 ∧ adjI ts v.toNat w.toNat := by
      refine Classical.byContradiction fun hno => hall fun w hw => ?_
      have hmem : ∀ j : Nat, Conn ts q j → (j : Int) ∈ sh := fun j hj => by
        rw [hsh]
        exact mem_shK2.2 ⟨j, rfl, hj.lt.2, by rw [← hL.conn hj]; exact hLq⟩
      have hclo : ∀ j : Nat, Conn ts q j → (j : Int) ∈ Y0 := by
        intro j hj
        induction hj with
        | refl _ => exact hq0
        | @tail a b h1 h2 ih =>
          refine Classical.byContradiction fun hnb => hno ⟨_, _, ih, hmem b (.tail h1 h2), hnb, by rw [Int.toNat_natCast, Int.toNat_natCast]; exact h2⟩
      rw [hsh] at hw
      obtain ⟨j, rfl, hj, hLj⟩ := mem_shK2.1 hw
      exact hclo j ((hL.conn_iff hq hj).2 (by rw [hLq, hLj]))
    obtain ⟨v, w, hv, hw, hnw, ha⟩ := hex
    obtain ⟨i', hi'⟩ := List.getElem?_of_mem (h.sub v (h.old v hv))
    obtain ⟨k', hk'⟩ := List.getElem?_of_mem hw
    have hwY := h.near i' k' v w (.inl (List.getElem?_eq_some_iff.1 hi').1) hi' hk' hv ha
    have := nodup_len (A := Y0 ++ [w]) (B := Y) (by
      rw [List.nodup_append]
      exact ⟨hn0, by simp, fun a ha0 b hb => by simp at hb; subst hb; rintro rfl; exact hnw ha0⟩) (fun a ha => by
      rcases List.mem_append.1 ha with ha | ha
      · exact h.old a ha
      · simp at ha; subst ha; exact hwY)
    simpa using this
end Go.Abs
set_option linter.unusedVariables false
set_option linter.unusedSimpArgs false
namespace Go.Abs

theorem shK_head {ts : List T3} {L : List Int} (h : IsLab ts L) {q n : Nat} (hq : q < n) (hLq : L[q]? = some (q : Int)) : (shK L q n)[0]? = some (q : Int) := by
  have key : ∀ d, ∃ r, shK L q (q + 1 + d) = (q : Int) :: r := by
    intro d
    induction d with
    | zero => exact ⟨[], by rw [Nat.add_zero, shK_succ, shK_low h, if_pos hLq]; rfl⟩
    | succ d ih =>
      obtain ⟨r, hr⟩ := ih
      exact ⟨_, by rw [← Nat.add_assoc, shK_succ, hr, List.cons_append]⟩
  obtain ⟨r, hr⟩ := key (n - (q + 1))
  rw [show q + 1 + (n - (q + 1)) = n by omega] at hr
  rw [hr]; rfl

section
variable {P : Program} (hm : P.follows .mixedOrders = true)
include hm

end
end Go.Abs
set_option linter.unusedVariables false
set_option linter.unusedSimpArgs false
namespace Go.Abs

/-- How many of the first triangles differ. -/
def difK (ts us : List T3) (k : Nat) : Nat := ((List.range k).filter fun i => decide (tAt us i ≠ tAt ts i)).length
theorem difK_succ (ts us : List T3) (k : Nat) : difK ts us (k + 1) = difK ts us k + if tAt us k = tAt ts k then 0 else 1 := by
  unfold difK
  rw [List.range_succ, List.filter_append, List.length_append]
  by_cases h : tAt us k = tAt ts k <;> simp [h]
theorem difK_le (ts us : List T3) (k : Nat) : difK ts us k ≤ k := by
  have := List.length_filter_le (fun i => decide (tAt us i ≠ tAt ts i)) (List.range k)
  rwa [List.length_range] at this
theorem t3_ext {a b : T3} (h1 : a.a = b.a) (h2 : a.b = b.b) (h3 : a.c = b.c) : a = b := by cases a; cases b; simp_all

section
variable {P : Program} (hm : P.follows .mixedOrders = true)
include hm

end
end Go.Abs
set_option linter.unusedVariables false
set_option linter.unusedSimpArgs false
namespace Go.Abs

theorem Fl.check {vs : List V3} {ts us : List T3} (h : Fl ts us) (hz : (Mesh.mk vs ts).check = 0) : (Mesh.mk vs us).check = 0 := by
  obtain ⟨z1, z2, z3, z4⟩ := Mesh.check_zero.1 hz
  refine Mesh.check_zero.2 ⟨z1, by rw [show (Mesh.mk vs us).tris.length = us.length from rfl, h.len]; exact z2, z3, ?_⟩
  simp only [tsOk, List.all_eq_true]
  intro t ht
  obtain ⟨i, hi⟩ := List.getElem?_of_mem ht
  have hil := (List.getElem?_eq_some_iff.1 hi).1
  have hil2 : i < ts.length := by rw [← h.len]; exact hil
  have hok := tAt_ok z4 hil2
  rw [tAt_get hil] at hi
  obtain rfl := Option.some.inj hi
  rcases h.tat hil2 with h1 | h1
  · rw [h1]; exact hok
  · rw [h1]; exact T3.rev_ok hok
theorem Fl.trans {ts us vs : List T3} (h : Fl ts us) (k : Fl us vs) : Fl ts vs where
  len := by rw [k.len, h.len]
  at_ i t u h1 h2 := by
    have hi := (List.getElem?_eq_some_iff.1 h1).1
    have hu : i < us.length := by rw [h.len]; exact hi
    have hv : i < vs.length := by rw [k.len]; exact hu
    rw [tAt_get hi] at h1
    rw [tAt_get hv] at h2
    obtain rfl := Option.some.inj h1
    obtain rfl := Option.some.inj h2
    rcases h.tat hi with h3 | h3 <;> rcases k.tat hu with h4 | h4
    · exact .inl (by rw [h4, h3])
    · exact .inr (by rw [h4, h3])
    · exact .inr (by rw [h4, h3])
    · exact .inl (by rw [h4, h3]; rfl)
theorem good_self {ts : List T3} {L : List Int} (hc : Coh ts) : Good ts ts L := ⟨Fl.refl ts, hc, fun _ _ _ => rfl⟩
theorem good_again {ts us : List T3} {L : List Int} (hL : IsLab ts L) (h : Good ts us L) : orientL us = some us := orientL_some (h.fl.lab hL) (good_self h.coh)
theorem oriR_err {m : Mesh} (hz : m.check = 0) (h : orientL m.tris = none) : oriR m = (⟨[], []⟩, 0, 13) := by
  unfold oriR; simp only [if_neg (show ¬ m.check ≠ 0 by simpa using hz), h]
theorem oriR_ok {m : Mesh} (hz : m.check = 0) {us : List T3} (h : orientL m.tris = some us) : oriR m = ((⟨m.verts, us⟩ : Mesh), (difN m.tris us : Int), (0 : Int)) := by
  unfold oriR; simp only [if_neg (show ¬ m.check ≠ 0 by simpa using hz), h]
end Go.Abs
set_option linter.unusedVariables false
set_option linter.unusedSimpArgs false
namespace Go.Abs

def Mesh.coh (m : Mesh) : Bool := decide (m.check = 0) && cohB m.tris
def CoherentC (P : Program) (f : FuncId) : Prop := ∀ m : Mesh, CallIs P f [m.enc] (.b m.coh)
def Mesh.smallO (m : Mesh) : Bool := decide (m.tris.length ≤ 40) && decide (m.verts.length ≤ 60)
def SmallOC (P : Program) (f : FuncId) : Prop := ∀ m : Mesh, CallIs P f [m.enc] (.b m.smallO)

section
variable {P : Program} (hm : P.follows .mixedOrders = true)
include hm

theorem orient_Coherent_ok {f fc fh : FuncId} (hf : FnOk P f (orient_Coherent.c fc fh) orient_Coherent.r orient_Coherent.n) (hc : CheckC P fc) (hh : CohC P fh) : CoherentC P f := by
  intro m
  refine PureC.is (pure_of hm hf (Nat.le_of_ble_eq_true rfl) ?_) rfl
  unfold orient_Coherent.c
  simp [go_sem, Mesh.enc, Mesh.cs]
  refine ACall_is (hc m) ?_
  by_cases h : m.check = 0
  · have hl := (Mesh.check_zero.1 h).2.1
    simp [go_sem, h]
    refine ACall_is (hh m.tris (by omega)) ?_
    simp [go_sem, orient_Coherent.r, Mesh.coh, h]
  · have h' : (m.check == 0) = false := by simpa using h
    simp [go_sem, h, h', orient_Coherent.r, Mesh.coh]

theorem law11_Small_ok {f : FuncId} (hf : FnOk P f law11_Small.c law11_Small.r law11_Small.n) : SmallOC P f := by
  intro m
  refine PureC.is (pure_of hm hf (Nat.le_of_ble_eq_true rfl) ?_) rfl
  unfold law11_Small.c
  simp +contextual -implicitDefEqProofs [go_sem, Mesh.enc, Mesh.cs, vsV, tsV, law11_Small.r, Mesh.smallO]
  congr 1 <;> rw [decide_eq_decide] <;> omega

end
end Go.Abs
set_option linter.unusedVariables false
set_option linter.unusedSimpArgs false
namespace Go.Abs

def SameMC (P : Program) (f : FuncId) : Prop := ∀ m : Mesh, m.verts.length ≤ 1000000 → m.tris.length ≤ 1000000 → CallIs P f [m.enc, m.enc] (.b true)

section
variable {P : Program} (hm : P.follows .mixedOrders = true)
include hm

set_option maxHeartbeats 4000000 in
theorem ref07_Same_ok {f : FuncId} (hf : FnOk P f ref07_Same.c ref07_Same.r ref07_Same.n) : SameMC P f := by
  intro m hl1 hl2
  refine PureC.is (pure_of hm hf (Nat.le_of_ble_eq_true rfl) ?_) rfl
  unfold ref07_Same.c
  simp [go_sem, Mesh.enc, Mesh.cs, vsV, tsV]
  refine AS_loop (α := Nat) (fun k => k ≤ m.verts.length)
    (fun k => ⟨[(2, .p 0 1 0 0), (3, .p 1 1 0 0), (25, .i .i64 m.verts.length), (26, .i .i64 k)], [.arr 1 2 [m.cs], .arr 1 2 [m.cs]]⟩)
    (fun k => m.verts.length - k) 0 (Nat.zero_le _) ?_ ?_
  · simp [go_sem, Mesh.cs, vsV, tsV]
  · intro k hk
    cases hp : m.verts[k]? with
    | none =>
      have : ¬ k < m.verts.length := by simpa using hp
      obtain rfl : k = m.verts.length := by omega
      simp [go_sem, vsV, tsV, Mesh.cs]
      refine AS_loop (α := Nat) (fun k => k ≤ m.tris.length)
        (fun k => ⟨[(2, .p 0 1 0 0), (3, .p 1 1 0 0), (43, .i .i64 m.tris.length), (44, .i .i64 k)], [.arr 1 2 [m.cs], .arr 1 2 [m.cs]]⟩)
        (fun k => m.tris.length - k) 0 (Nat.zero_le _) ?_ ?_
      · simp [go_sem, Mesh.cs, vsV, tsV]
      · intro k hk
        cases hp : m.tris[k]? with
        | none =>
          have : ¬ k < m.tris.length := by simpa using hp
          obtain rfl : k = m.tris.length := by omega
          simp [go_sem, vsV, tsV, Mesh.cs, ref07_Same.r]
        | some p =>
          obtain ⟨hlt, hp'⟩ := List.getElem?_eq_some_iff.1 hp
          simp [go_sem, vsV, tsV, Mesh.cs, hlt, hp', tcs]
          refine ⟨k + 1, by omega, by omega, ?_⟩
          simp (disch := omega) [go_sem, vsV, tsV, Mesh.cs, wrap64_small]
    | some p =>
      obtain ⟨hlt, hp'⟩ := List.getElem?_eq_some_iff.1 hp
      simp [go_sem, vsV, tsV, Mesh.cs, hlt, hp', vcs]
      refine ⟨k + 1, by omega, by omega, ?_⟩
      simp (disch := omega) [go_sem, vsV, tsV, Mesh.cs, wrap64_small]
end
end Go.Abs
set_option linter.unusedVariables false
set_option linter.unusedSimpArgs false
namespace Go.Abs

theorem smallO_len {m : Mesh} (h : m.smallO = true) : m.tris.length ≤ 40 ∧ m.verts.length ≤ 60 := by simpa [Mesh.smallO] using h
section
variable {P : Program} (hm : P.follows .mixedOrders = true)
include hm

end
end Go.Abs
set_option linter.unusedVariables false
set_option linter.unusedSimpArgs false
namespace Go.Abs

def VecsC (P : Program) (f : FuncId) : Prop := ∀ l : List V3, l.length ≤ 1000000 → CallIs P f [vsV l, vsV l] (.b true)
/-- What Orient's result is. -/
theorem oriR_cases (m : Mesh) : ((oriR m).2.2 ≠ 0 ∧ oriR m = (⟨[], []⟩, 0, (oriR m).2.2) ∧ m.coh = false ∧ (m.check = 0 → (oriR m).2.2 = 13)) ∨ (m.check = 0 ∧ ∃ us, orientL m.tris = some us ∧ oriR m = (⟨m.verts, us⟩, (difN m.tris us : Int), 0)) := by
  by_cases hz : m.check = 0
  case neg =>
    have : oriR m = (⟨[], []⟩, 0, m.check) := by unfold oriR; rw [if_pos hz]
    rw [this]
    exact .inl ⟨hz, rfl, by unfold Mesh.coh; simp [hz], fun h => absurd h hz⟩
  cases h : orientL m.tris with
  | none =>
    rw [oriR_err hz h]
    refine .inl ⟨by simp, rfl, ?_, fun _ => rfl⟩
    unfold Mesh.coh
    cases hc : cohB m.tris with
    | false => simp
    | true =>
      obtain ⟨L, hL⟩ := lab_ex m.tris
      rw [orientL_some hL (good_self (cohB_iff.1 hc))] at h
      simp at h
  | some us => exact .inr ⟨hz, us, rfl, oriR_ok hz h⟩
theorem difN_split (ts us : List T3) : difN ts us = difK ts us ts.length := rfl

section
variable {P : Program} (hm : P.follows .mixedOrders = true)
include hm

theorem law11_vecs_ok {f : FuncId} (hf : FnOk P f law11_vecs.c law11_vecs.r law11_vecs.n) : VecsC P f := by
  intro l hl
  refine PureC.is (pure_of hm hf (Nat.le_of_ble_eq_true rfl) ?_) rfl
  unfold law11_vecs.c
  simp [go_sem, vsV]
  refine AS_loop (α := Nat) (fun k => k ≤ l.length) (fun k => ⟨[(0, vsV l), (1, vsV l), (5, .i .i64 k)], []⟩) (fun k => l.length - k) 0 (Nat.zero_le _) ?_ ?_
  · simp [go_sem, vsV]
  · intro k hk
    by_cases hkl : k = l.length
    · subst hkl
      simp [go_sem, vsV, law11_vecs.r]
    · have hlt : k < l.length := by omega
      have hp : l[k]? = some l[k] := List.getElem?_eq_getElem hlt
      generalize l[k] = t at hp
      obtain ⟨_, hp'⟩ := List.getElem?_eq_some_iff.1 hp
      simp (disch := omega) [go_sem, vsV, hlt, hp, hp', vcs, wrap64_small]
      exact ⟨k + 1, by omega, by omega, by omega⟩

end
end Go.Abs
set_option linter.unusedVariables false
set_option linter.unusedSimpArgs false
namespace Go.Abs

section
variable {P : Program} (hm : P.follows .mixedOrders = true)
include hm

set_option maxRecDepth 20000 in
set_option maxHeartbeats 8000000 in
theorem OrientCoherent_ok {f fs fa fo fc fv fr fsh fe : FuncId} (hf : FnOk P f (law11_OrientCoherent.c fs fa fo fc fv fr fsh fe) law11_OrientCoherent.r law11_OrientCoherent.n) (hs : SmallOC P fs) (ha : AwakeC P fa) (ho : OrientC P fo) (hc : CoherentC P fc) (hv : VecsC P fv) (hr : RevTC P fr) (hsh : ShellsC P fsh) (he : SameMC P fe)
    (m : Mesh) : PureC P f [m.enc] (· = .b true) := by
  refine pure_of hm hf (Nat.le_of_ble_eq_true rfl) ?_
  unfold law11_OrientCoherent.c
  have hs1 := hs m
  have ho1 := ho m
  have hc1 := hc m
  simp only [Mesh.enc, Mesh.cs] at hs1 ho1 hc1
  simp [go_sem, Mesh.enc, Mesh.cs]
  refine ACall_is hs1 ?_
  cases h : m.smallO
  · simp [go_sem]
    refine ACall_is ha ?_
    simp [go_sem, law11_OrientCoherent.r]
  have hl := smallO_len h
  simp [go_sem]
  refine ACall_is ho1 ?_
  rcases oriR_cases m with ⟨h0, h1, hcoh, _⟩ | ⟨hz, us, h2, h1⟩
  · generalize (oriR m).2.2 = er at h0 h1
    rw [h1]
    rw [hcoh] at hc1
    have h0' : (er != 0) = true := by simpa using h0
    simp [go_sem, mieV, Mesh.enc, Mesh.cs, h0, h0', vsV, tsV]
    refine ACall_is hc1 ?_
    simp [go_sem]
    refine ACall_is ha ?_
    simp [go_sem, law11_OrientCoherent.r]
  rw [h1]
  obtain ⟨L, hL⟩ := lab_ex m.tris
  have hg := orientL_good hL h2
  have hul := hg.fl.len
  have hxz : (Mesh.mk m.verts us).check = 0 := hg.fl.check hz
  have hx := ho ⟨m.verts, us⟩
  rw [oriR_ok hxz (good_again hL hg), show (Mesh.mk m.verts us).tris = us from rfl, difN_self] at hx
  have hcx := hc ⟨m.verts, us⟩
  have hcc : (Mesh.mk m.verts us).coh = true := by
    unfold Mesh.coh; rw [hxz, cohB_iff.2 hg.coh]; rfl
  rw [hcc] at hcx
  have hv1 := hv m.verts (by omega)
  have hsh1 := hsh m
  have hR : m.shells = shsK L m.tris.length := by unfold Mesh.shells; rw [if_pos hz, labOf_eq hL, hL.len]
  have hshs : ∀ sh ∈ m.shells, ∃ q : Nat, q < m.tris.length ∧ L[q]? = some (q : Int) ∧ sh[0]? = some (q : Int) ∧ tAt us q = tAt m.tris q := fun sh h => by
    rw [hR] at h
    obtain ⟨q, h1, h2, h3⟩ := shsK_mem.1 h
    rw [hL.len] at h3
    exact ⟨q, h1, h2, by rw [h3]; exact shK_head hL h1 h2, hg.first q h1 h2⟩
  have hok := shells_ok hz
  have he1 := he ⟨m.verts, us⟩ (by simp only; omega) (by simp only; omega)
  have hdf := difN_split m.tris us
  simp only [Mesh.enc, Mesh.cs] at hx hcx he1 hsh1
  generalize m.shells = shs at *
  simp [go_sem, mieV, Mesh.enc, Mesh.cs]
  refine ACall_is hcx ?_
  simp [go_sem]
  refine ACall_is hv1 ?_
  simp [go_sem, tsV, hul]
  refine AS_loop (α := Nat) (fun k => k ≤ m.tris.length)
    (fun k => ⟨[(1, .p 0 1 0 0), (3, .p 1 1 0 0), (4, .i .i64 ((difN m.tris us : Int) - difK m.tris us k)), (6, .i .i64 k)], [.arr 1 2 [m.cs], .arr 1 2 [[vsV m.verts, tsV us]]]⟩)
    (fun k => m.tris.length - k) 0 (Nat.zero_le _) ?_ ?_
  · simp [go_sem, Mesh.cs, vsV, tsV, difK]
  · intro k hk
    by_cases hkl : k = m.tris.length
    · subst hkl
      rw [← hdf, Int.sub_self]
      simp [go_sem, Mesh.cs, vsV, tsV]
      simp [vsV, tsV] at hsh1
      refine ACall_is hsh1 ?_
      simp [go_sem]
      refine AS_loop (α := Nat) (fun k => k ≤ shs.length)
        (fun k => ⟨[(1, .p 0 1 0 0), (3, .p 1 1 0 0), (4, .i .i64 0), (7, lsV shs), (8, .i .i64 k)], [.arr 1 2 [m.cs], .arr 1 2 [[vsV m.verts, tsV us]]]⟩)
        (fun k => shs.length - k) 0 (Nat.zero_le _) ?_ ?_
      · simp [go_sem, Mesh.cs, vsV, tsV, lsV]
      · intro k hk
        by_cases hkl : k = shs.length
        · subst hkl
          simp [go_sem, Mesh.cs, vsV, tsV, lsV]
          simp [vsV, tsV] at hx he1
          refine ACall_is hx ?_
          simp [go_sem, mieV, Mesh.enc, Mesh.cs, vsV, tsV]
          refine ACall_is he1 ?_
          simp [go_sem]
          refine ACall_is ha ?_
          simp [go_sem, law11_OrientCoherent.r]
        · have hlt : k < shs.length := by omega
          have hp : shs[k]? = some shs[k] := List.getElem?_eq_getElem hlt
          have hmw : shs[k] ∈ shs := List.getElem_mem _
          generalize shs[k] = sh at hp hmw
          obtain ⟨_, hp'⟩ := List.getElem?_eq_some_iff.1 hp
          obtain ⟨q, hq, hLq, hh, hteq⟩ := hshs sh hmw
          obtain ⟨hsl, hh'⟩ := List.getElem?_eq_some_iff.1 hh
          have hshl := hok.len sh hmw
          have hnum := hok.num
          have t1 := tAt_get hq
          have t2 := tAt_get (ts := us) (i := q) (by omega)
          rw [hteq] at t2
          generalize tAt m.tris q = t at t1 t2
          obtain ⟨_, t1'⟩ := List.getElem?_eq_some_iff.1 t1
          obtain ⟨lq, t2'⟩ := List.getElem?_eq_some_iff.1 t2
          have e0 : ((sh.length : Int) == 0) = false := by simp; intro h; rw [h] at hsl; simp at hsl
          simp (disch := omega) [go_sem, Mesh.cs, vsV, tsV, lsV, isV, hlt, hp, hp', hh, hh', hsl, e0, hq, t1, t1', t2, t2', lq, tcs, show ¬ ((q : Int) < 0) by omega, show ¬ ((m.tris.length : Int) ≤ (q : Int)) by omega, wrap64_small]
          exact ⟨k + 1, by omega, by omega, by omega⟩
    · have hlt : k < m.tris.length := by omega
      have t1 := tAt_get hlt
      have t2 := tAt_get (ts := us) (i := k) (by omega)
      have hsu := difK_succ m.tris us k
      have hle := difK_le m.tris us k
      have hle2 := difN_le m.tris us
      have hfl := hg.fl.tat hlt
      generalize tAt m.tris k = a at *
      generalize tAt us k = b at *
      obtain ⟨_, t1'⟩ := List.getElem?_eq_some_iff.1 t1
      obtain ⟨l2, t2'⟩ := List.getElem?_eq_some_iff.1 t2
      by_cases hab : b = a
      · rw [if_pos hab, Nat.add_zero] at hsu
        subst hab
        simp (disch := omega) [go_sem, Mesh.cs, vsV, tsV, hul, hlt, t1, t1', t2, t2', l2, tcs, wrap64_small]
        exact ⟨k + 1, by omega, by omega, by rw [hsu]; simp, by omega⟩
      · rw [if_neg hab] at hsu
        have hbr : b = a.rev := by
          rcases hfl with h | h
          · exact absurd h hab
          · exact h
        subst hbr
        have hr1 := hr a
        simp [go_sem, T3.enc, tcs] at hr1
        have hab' : ¬ (a.rev.a = a.a ∧ a.rev.b = a.b ∧ a.rev.c = a.c) := fun hh => hab (t3_ext hh.1 hh.2.1 hh.2.2)
        simp (disch := omega) [go_sem, Mesh.cs, vsV, tsV, hul, hlt, t1, t1', t2, t2', l2, tcs, hab', wrap64_small]
        refine fun _ => ?_
        refine DCall_is hr1 ?_
        simp (disch := omega) [go_sem, Mesh.cs, vsV, tsV, hul, hlt, t1, t1', t2, t2', l2, tcs, wrap64_small]
        exact ⟨k + 1, by omega, by omega, by rw [hsu]; omega, by omega⟩
end
end Go.Abs
