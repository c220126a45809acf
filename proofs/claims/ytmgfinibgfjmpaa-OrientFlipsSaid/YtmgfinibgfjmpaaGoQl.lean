/- Part of the library on which the proof stands: an abstract machine, its values and its soundness against the model; or what functions of the program do to such values. -/
import Derived.Test.YtmgfinibgfjmpaaGoQa
import Derived.Test.YtmgfinibgfjmpaaGoQc
import Derived.Test.YtmgfinibgfjmpaaGoClone
import Derived.Test.YtmgfinibgfjmpaaGoOw
import Derived.Test.YtmgfinibgfjmpaaGoOriA
set_option linter.unusedVariables false
set_option linter.unusedSimpArgs false
namespace Go.Abs

def sameB (a b : T3) : Bool := (edgesOf a).any fun x => (edgesOf b).any fun y => decide (x = y)
def oppB (a b : T3) : Bool := (edgesOf a).any fun x => (edgesOf b).any fun y => decide (x = y.rev)
theorem sameB_iff {a b : T3} : sameB a b = true ↔ ∃ e ∈ edgesOf a, e ∈ edgesOf b := by
  unfold sameB
  simp only [List.any_eq_true, decide_eq_true_eq]
  constructor
  · rintro ⟨x, hx, y, hy, rfl⟩; exact ⟨x, hx, hy⟩
  · rintro ⟨x, hx, hy⟩; exact ⟨x, hx, x, hy, rfl⟩
theorem oppB_iff {a b : T3} : oppB a b = true ↔ ∃ e ∈ edgesOf a, e.rev ∈ edgesOf b := by
  unfold oppB
  simp only [List.any_eq_true, decide_eq_true_eq]
  constructor
  · rintro ⟨x, hx, y, hy, rfl⟩; exact ⟨y.rev, hx, hy⟩
  · rintro ⟨x, hx, hy⟩; exact ⟨x, hx, x.rev, hy, rfl⟩
theorem OrI.bad {ts us : List T3} {L X : List Int} {n : Nat} (h : OrI ts us L X n) {k : Nat} (hk : k < ts.length) (hno : ∀ vs, ¬ Good ts vs L) : OrI ts us L (X ++ [(k : Int)]) n :=
  ⟨h.fl, fun i hi hn => h.new i hi fun hh => hn (mem_snoc.2 (.inl hh)), h.first, by have := h.num; simp; omega, fun vs hv => absurd hv (hno vs)⟩
theorem OrI.spread {ts us : List T3} {L X : List Int} {n : Nat} (h : OrI ts us L X n) {i k : Nat} (hi : i < ts.length) (hk : k < ts.length) (hix : (i : Int) ∈ X) (hx : (k : Int) ∉ X) (hLk : L[k]? ≠ some (k : Int))
    (hb : (sameB (tAt us i) (tAt us k) || oppB (tAt us i) (tAt us k)) = true) :
    ∃ n', OrI ts (if (sameB (tAt us i) (tAt us k) && !oppB (tAt us i) (tAt us k)) = true then us.set k (tAt us k).rev else us) L (X ++ [(k : Int)]) n' := by
  cases hs : sameB (tAt us i) (tAt us k) <;> cases ho : oppB (tAt us i) (tAt us k)
  · rw [hs, ho] at hb; simp at hb
  · rw [if_neg (by simp)]
    obtain ⟨e, h1, h2⟩ := oppB_iff.1 ho
    refine ⟨n, h.keep hi hk hix hx h1 (fun hh => ?_) (b := e.rev) (by rw [← h.new k hk hx]; exact h2) (rev_und e)⟩
    rw [sameB_iff.2 ⟨e, h1, hh⟩] at hs
    simp at hs
  · rw [if_pos (by simp)]
    obtain ⟨e, h1, h2⟩ := sameB_iff.1 hs
    exact ⟨n + 1, h.turn hi hk hix hx hLk h1 h2⟩
  · rw [if_neg (by simp)]
    refine ⟨n, h.bad hk fun vs hv => ?_⟩
    obtain ⟨h1, _⟩ := h.good vs hv
    obtain ⟨e, e1, e2⟩ := sameB_iff.1 hs
    obtain ⟨e', e3, e4⟩ := oppB_iff.1 ho
    have hvi := h1 i hi hix
    have hvl := hv.fl.len
    have huk := h.new k hk hx
    rcases hv.fl.tat hk with h3 | h3
    · have hik := hv.coh i k e (by omega) (by omega) (by rw [← hvi]; exact e1) (by rw [h3, ← huk]; exact e2)
      subst hik; exact hx hix
    · have hik := hv.coh i k e' (by omega) (by omega) (by rw [← hvi]; exact e3) (by rw [h3, mem_edges_rev, ← huk]; exact e4)
      subst hik; exact hx hix
/-- While a shell's triangles are looked at, pair by pair. -/
structure RI (ts us : List T3) (L X0 sh Y0 Y : List Int) (i k : Nat) : Prop where
  ori : ∃ n, OrI ts us L (X0 ++ Y) n
  nodup : Y.Nodup
  sub : ∀ v ∈ Y, v ∈ sh
  old : ∀ v ∈ Y0, v ∈ Y
  near : ∀ (i' k' : Nat) (v w : Int), (i' < i ∨ (i' = i ∧ k' < k)) → sh[i']? = some v → sh[k']? = some w → v ∈ Y0 → adjI ts v.toNat w.toNat → w ∈ Y
theorem RI.row {ts us : List T3} {L X0 sh Y0 Y : List Int} {i : Nat} (h : RI ts us L X0 sh Y0 Y i sh.length) : RI ts us L X0 sh Y0 Y (i + 1) 0 :=
  ⟨h.ori, h.nodup, h.sub, h.old, fun i' k' v w hik hv hw h0 ha => by
    have hk := (List.getElem?_eq_some_iff.1 hw).1
    exact h.near i' k' v w (by omega) hv hw h0 ha⟩
theorem RI.skip {ts us : List T3} {L X0 sh Y0 Y : List Int} {i k : Nat} (h : RI ts us L X0 sh Y0 Y i k) (hs : ∀ v w : Int, sh[i]? = some v → sh[k]? = some w → v ∈ Y0 → adjI ts v.toNat w.toNat → w ∈ Y) : RI ts us L X0 sh Y0 Y i (k + 1) :=
  ⟨h.ori, h.nodup, h.sub, h.old, fun i' k' v w hik hv hw h0 ha => by
    by_cases hh : i' = i ∧ k' = k
    · obtain ⟨rfl, rfl⟩ := hh
      exact hs v w hv hw h0 ha
    · exact h.near i' k' v w (by omega) hv hw h0 ha⟩
theorem RI.add {ts us us' : List T3} {L X0 sh Y0 Y : List Int} {i k : Nat} {w : Int} (h : RI ts us L X0 sh Y0 Y i k) (hw : sh[k]? = some w) (hn : w ∉ Y) (ho : ∃ n, OrI ts us' L (X0 ++ Y ++ [w]) n) : RI ts us' L X0 sh Y0 (Y ++ [w]) i (k + 1) :=
  ⟨by rwa [List.append_assoc] at ho, by
    rw [List.nodup_append]
    exact ⟨h.nodup, by simp, fun a ha b hb => by simp at hb; subst hb; rintro rfl; exact hn ha⟩, fun v hv => by
    rcases List.mem_append.1 hv with hv | hv
    · exact h.sub v hv
    · simp at hv; subst hv; exact List.mem_of_getElem? hw, fun v hv => List.mem_append.2 (.inl (h.old v hv)), fun i' k' v w' hik hv hw' h0 ha => by
    by_cases hh : i' = i ∧ k' = k
    · obtain ⟨rfl, rfl⟩ := hh
      rw [hw] at hw'
      obtain rfl := Option.some.inj hw'
      simp
    · exact List.mem_append.2 (.inl (h.near i' k' v w' (by omega) hv hw' h0 ha))⟩
/-- A round reaches one more triangle, if there is one. -/
theorem RI.more {ts us : List T3} {L X0 sh Y0 Y : List Int} {q : Nat} (hL : IsLab ts L) (hsh : sh = shK L q ts.length) (hq : q < ts.length) (hLq : L[q]? = some (q : Int)) (hn0 : Y0.Nodup) (hq0 : (q : Int) ∈ Y0)
    (h : RI ts us L X0 sh Y0 Y sh.length 0) : (∀ w ∈ sh, w ∈ Y0) ∨ Y0.length + 1 ≤ Y.length := by
  by_cases hall : ∀ w ∈ sh, w ∈ Y0
  · exact .inl hall
  · refine .inr ?_
    have hex : ∃ v w : Int, v ∈ Y0 ∧ w ∈ sh ∧ w ∉ Y0 ∧ adjI ts v.toNat w.toNat := by
      refine Classical.byContradiction fun hno => hall fun w hw => ?_
      have hmem : ∀ j : Nat, Conn ts q j → (j : Int) ∈ sh := fun j hj => by
        rw [hsh]
        exact mem_shK2.2 ⟨j, rfl, hj.lt.2, by rw [← hL.conn hj]; exact hLq⟩
      have hclo : ∀ j : Nat, Conn ts q j → (j : Int) ∈ Y0 := by
        intro j hj
        induction hj with
        | refl _ => exact hq0
        | @tail a b h1 h2 ih =>
          refine Classical.byContradiction fun hnb => hno ⟨_, _, ih, hmem b (.tail h1 h2), hnb, by rw [Int.toNat_natCast, Int.toNat_natCast]; exact h2⟩
      rw [hsh] at hw
      obtain ⟨j, rfl, hj, hLj⟩ := mem_shK2.1 hw
      exact hclo j ((hL.conn_iff hq hj).2 (by rw [hLq, hLj]))
    obtain ⟨v, w, hv, hw, hnw, ha⟩ := hex
    obtain ⟨i', hi'⟩ := List.getElem?_of_mem (h.sub v (h.old v hv))
    obtain ⟨k', hk'⟩ := List.getElem?_of_mem hw
    have hwY := h.near i' k' v w (.inl (List.getElem?_eq_some_iff.1 hi').1) hi' hk' hv ha
    have := nodup_len (A := Y0 ++ [w]) (B := Y) (by
      rw [List.nodup_append]
      exact ⟨hn0, by simp, fun a ha0 b hb => by simp at hb; subst hb; rintro rfl; exact hnw ha0⟩) (fun a ha => by
      rcases List.mem_append.1 ha with ha | ha
      · exact h.old a ha
      · simp at ha; subst ha; exact hwY)
    simpa using this
end Go.Abs
set_option linter.unusedVariables false
set_option linter.unusedSimpArgs false
namespace Go.Abs

theorem shK_head {ts : List T3} {L : List Int} (h : IsLab ts L) {q n : Nat} (hq : q < n) (hLq : L[q]? = some (q : Int)) : (shK L q n)[0]? = some (q : Int) := by
  have key : ∀ d, ∃ r, shK L q (q + 1 + d) = (q : Int) :: r := by
    intro d
    induction d with
    | zero => exact ⟨[], by rw [Nat.add_zero, shK_succ, shK_low h, if_pos hLq]; rfl⟩
    | succ d ih =>
      obtain ⟨r, hr⟩ := ih
      exact ⟨_, by rw [← Nat.add_assoc, shK_succ, hr, List.cons_append]⟩
  obtain ⟨r, hr⟩ := key (n - (q + 1))
  rw [show q + 1 + (n - (q + 1)) = n by omega] at hr
  rw [hr]; rfl

section
variable {P : Program} (hm : P.follows .mixedOrders = true)
include hm

end
end Go.Abs
set_option linter.unusedVariables false
set_option linter.unusedSimpArgs false
namespace Go.Abs

theorem Fl.check {vs : List V3} {ts us : List T3} (h : Fl ts us) (hz : (Mesh.mk vs ts).check = 0) : (Mesh.mk vs us).check = 0 := by
  obtain ⟨z1, z2, z3, z4⟩ := Mesh.check_zero.1 hz
  refine Mesh.check_zero.2 ⟨z1, by rw [show (Mesh.mk vs us).tris.length = us.length from rfl, h.len]; exact z2, z3, ?_⟩
  simp only [tsOk, List.all_eq_true]
  intro t ht
  obtain ⟨i, hi⟩ := List.getElem?_of_mem ht
  have hil := (List.getElem?_eq_some_iff.1 hi).1
  have hil2 : i < ts.length := by rw [← h.len]; exact hil
  have hok := tAt_ok z4 hil2
  rw [tAt_get hil] at hi
  obtain rfl := Option.some.inj hi
  rcases h.tat hil2 with h1 | h1
  · rw [h1]; exact hok
  · rw [h1]; exact T3.rev_ok hok
theorem Fl.trans {ts us vs : List T3} (h : Fl ts us) (k : Fl us vs) : Fl ts vs where
  len := by rw [k.len, h.len]
  at_ i t u h1 h2 := by
    have hi := (List.getElem?_eq_some_iff.1 h1).1
    have hu : i < us.length := by rw [h.len]; exact hi
    have hv : i < vs.length := by rw [k.len]; exact hu
    rw [tAt_get hi] at h1
    rw [tAt_get hv] at h2
    obtain rfl := Option.some.inj h1
    obtain rfl := Option.some.inj h2
    rcases h.tat hi with h3 | h3 <;> rcases k.tat hu with h4 | h4
    · exact .inl (by rw [h4, h3])
    · exact .inr (by rw [h4, h3])
    · exact .inr (by rw [h4, h3])
    · exact .inl (by rw [h4, h3]; rfl)
theorem good_self {ts : List T3} {L : List Int} (hc : Coh ts) : Good ts ts L := ⟨Fl.refl ts, hc, fun _ _ _ => rfl⟩
/-- Whether it can be done does not depend on the turns. -/
theorem good_fl {ts ts' us : List T3} {L : List Int} (hL : IsLab ts L) (hf : Fl ts ts') (h : Good ts us L) : ∃ us', Good ts' us' L := by
  have hLl := hL.len
  obtain ⟨F, hF⟩ : ∃ F : List Int, F = ((List.range ts.length).filter fun i => decide (tAt ts' (lAt L i).toNat ≠ tAt ts (lAt L i).toNat)).map fun (i : Nat) => (i : Int) := ⟨_, rfl⟩
  have hmem : ∀ i : Nat, i < ts.length → ((i : Int) ∈ F ↔ tAt ts' (lAt L i).toNat ≠ tAt ts (lAt L i).toNat) := by
    intro i hi
    rw [hF, List.mem_map]
    constructor
    · rintro ⟨j, hj, hji⟩
      obtain rfl : j = i := by omega
      simpa using (List.mem_filter.1 hj).2
    · intro hh
      exact ⟨i, List.mem_filter.2 ⟨List.mem_range.2 hi, by simpa using hh⟩, rfl⟩
  have hul := h.fl.len
  have hw : Whole us F := by
    intro i j ha
    have ha2 := h.fl.symm.adj ha
    have hl := ha2.lt
    have hLij := hL.adj i j ha2
    have : lAt L i = lAt L j := by unfold lAt; rw [hLij]
    rw [hmem i hl.1, hmem j hl.2, this]
  refine ⟨flp us F, hf.symm.trans (h.fl.trans (flp_Fl us F)), flp_coh hw h.coh, fun i hi hLi => ?_⟩
  rw [hf.len] at hi
  have hlat : (lAt L i).toNat = i := by unfold lAt; rw [hLi]; simp
  rw [flp_at (by rw [hul]; exact hi), h.first i hi hLi]
  by_cases hm : (i : Int) ∈ F
  · rw [if_pos hm]
    have hne := (hmem i hi).1 hm
    rw [hlat] at hne
    rcases hf.tat hi with h1 | h1
    · exact absurd h1 hne
    · exact h1.symm
  · rw [if_neg hm]
    have hne := fun hh => hm ((hmem i hi).2 hh)
    rw [hlat] at hne
    exact (Decidable.not_not.1 hne).symm
theorem orientL_fl {ts ts' : List T3} (hf : Fl ts ts') : (orientL ts = none ↔ orientL ts' = none) := by
  obtain ⟨L, hL⟩ := lab_ex ts
  have key : ∀ {a b : List T3}, IsLab a L → Fl a b → orientL b = none → orientL a = none := by
    intro a b ha hab hb
    cases h : orientL a with
    | none => rfl
    | some us =>
      obtain ⟨us', hg⟩ := good_fl ha hab (orientL_good ha h)
      rw [orientL_some (hab.lab ha) hg] at hb
      simp at hb
  exact ⟨key (hf.lab hL) hf.symm, key hL hf⟩
/-- With the first triangles kept, the result is the same. -/
theorem orientL_keep {ts ts' : List T3} {L : List Int} (hL : IsLab ts L) (hf : Fl ts ts') (hk : ∀ i : Nat, i < ts.length → L[i]? = some (i : Int) → tAt ts' i = tAt ts i) : orientL ts' = orientL ts := by
  cases h : orientL ts with
  | none => exact (orientL_fl hf).1 h
  | some us =>
    have hg := orientL_good hL h
    refine orientL_some (hf.lab hL) ⟨hf.symm.trans hg.fl, hg.coh, fun i hi hLi => ?_⟩
    rw [hf.len] at hi
    rw [hg.first i hi hLi, hk i hi hLi]
theorem oriR_err {m : Mesh} (hz : m.check = 0) (h : orientL m.tris = none) : oriR m = (⟨[], []⟩, 0, 13) := by
  unfold oriR; simp only [if_neg (show ¬ m.check ≠ 0 by simpa using hz), h]
theorem oriR_ok {m : Mesh} (hz : m.check = 0) {us : List T3} (h : orientL m.tris = some us) : oriR m = ((⟨m.verts, us⟩ : Mesh), (difN m.tris us : Int), (0 : Int)) := by
  unfold oriR; simp only [if_neg (show ¬ m.check ≠ 0 by simpa using hz), h]
end Go.Abs
set_option linter.unusedVariables false
set_option linter.unusedSimpArgs false
namespace Go.Abs

def Mesh.coh (m : Mesh) : Bool := decide (m.check = 0) && cohB m.tris
def Mesh.smallO (m : Mesh) : Bool := decide (m.tris.length ≤ 40) && decide (m.verts.length ≤ 60)
def SmallOC (P : Program) (f : FuncId) : Prop := ∀ m : Mesh, CallIs P f [m.enc] (.b m.smallO)

section
variable {P : Program} (hm : P.follows .mixedOrders = true)
include hm

theorem law11_Small_ok {f : FuncId} (hf : FnOk P f law11_Small.c law11_Small.r law11_Small.n) : SmallOC P f := by
  intro m
  refine PureC.is (pure_of hm hf (Nat.le_of_ble_eq_true rfl) ?_) rfl
  unfold law11_Small.c
  simp +contextual -implicitDefEqProofs [go_sem, Mesh.enc, Mesh.cs, vsV, tsV, law11_Small.r, Mesh.smallO]
  congr 1 <;> rw [decide_eq_decide] <;> omega

end
end Go.Abs
set_option linter.unusedVariables false
set_option linter.unusedSimpArgs false
namespace Go.Abs

theorem smallO_len {m : Mesh} (h : m.smallO = true) : m.tris.length ≤ 40 ∧ m.verts.length ≤ 60 := by simpa [Mesh.smallO] using h
section
variable {P : Program} (hm : P.follows .mixedOrders = true)
include hm

end
end Go.Abs
set_option linter.unusedVariables false
set_option linter.unusedSimpArgs false
namespace Go.Abs

def VecsC (P : Program) (f : FuncId) : Prop := ∀ l : List V3, l.length ≤ 1000000 → CallIs P f [vsV l, vsV l] (.b true)
def SameFC (P : Program) (f : FuncId) : Prop := ∀ m : Mesh, m.verts.length ≤ 1000000 → m.tris.length ≤ 1000000 → CallIs P f [m.enc, m.enc] (.b true)
/-- What Orient's result is. -/
theorem oriR_cases (m : Mesh) : ((oriR m).2.2 ≠ 0 ∧ oriR m = (⟨[], []⟩, 0, (oriR m).2.2) ∧ m.coh = false ∧ (m.check = 0 → (oriR m).2.2 = 13)) ∨ (m.check = 0 ∧ ∃ us, orientL m.tris = some us ∧ oriR m = (⟨m.verts, us⟩, (difN m.tris us : Int), 0)) := by
  by_cases hz : m.check = 0
  case neg =>
    have : oriR m = (⟨[], []⟩, 0, m.check) := by unfold oriR; rw [if_pos hz]
    rw [this]
    exact .inl ⟨hz, rfl, by unfold Mesh.coh; simp [hz], fun h => absurd h hz⟩
  cases h : orientL m.tris with
  | none =>
    rw [oriR_err hz h]
    refine .inl ⟨by simp, rfl, ?_, fun _ => rfl⟩
    unfold Mesh.coh
    cases hc : cohB m.tris with
    | false => simp
    | true =>
      obtain ⟨L, hL⟩ := lab_ex m.tris
      rw [orientL_some hL (good_self (cohB_iff.1 hc))] at h
      simp at h
  | some us => exact .inr ⟨hz, us, rfl, oriR_ok hz h⟩
theorem oriR_len {m : Mesh} (h : m.smallO = true) : (oriR m).1.verts.length ≤ 60 ∧ (oriR m).1.tris.length ≤ 40 := by
  have hl := smallO_len h
  rcases oriR_cases m with ⟨_, h1, _⟩ | ⟨_, us, h2, h1⟩
  · rw [h1]; simp
  · obtain ⟨L, hL⟩ := lab_ex m.tris
    have hul := (orientL_good hL h2).fl.len
    rw [h1]
    simp only
    omega
/-- A call that is not made. -/
theorem Sg_skip {P : Program} {n0 : Nat} {js : List Nat} {lg : List (List Nat × List Nat)} {f : FuncId} {args : List A} {b : Bool} {env : List (Nat × V)} {h : List O} {K : List Nat × List Nat → V → List O → Prop} : Sg P n0 js lg (.call f args) (.t []) b env h K = K ([], []) (.t []) h := _root_.id rfl
section
variable {P : Program} (hm : P.follows .mixedOrders = true)
include hm

theorem law11_vecs_ok {f : FuncId} (hf : FnOk P f law11_vecs.c law11_vecs.r law11_vecs.n) : VecsC P f := by
  intro l hl
  refine PureC.is (pure_of hm hf (Nat.le_of_ble_eq_true rfl) ?_) rfl
  unfold law11_vecs.c
  simp [go_sem, vsV]
  refine AS_loop (α := Nat) (fun k => k ≤ l.length) (fun k => ⟨[(0, vsV l), (1, vsV l), (5, .i .i64 k)], []⟩) (fun k => l.length - k) 0 (Nat.zero_le _) ?_ ?_
  · simp [go_sem, vsV]
  · intro k hk
    by_cases hkl : k = l.length
    · subst hkl
      simp [go_sem, vsV, law11_vecs.r]
    · have hlt : k < l.length := by omega
      have hp : l[k]? = some l[k] := List.getElem?_eq_getElem hlt
      generalize l[k] = t at hp
      obtain ⟨_, hp'⟩ := List.getElem?_eq_some_iff.1 hp
      simp (disch := omega) [go_sem, vsV, hlt, hp, hp', vcs, wrap64_small]
      exact ⟨k + 1, by omega, by omega, by omega⟩

set_option maxRecDepth 20000 in
set_option maxHeartbeats 4000000 in
theorem law11_same_ok {f fv fr : FuncId} (hf : FnOk P f (law11_same.c fv fr) law11_same.r law11_same.n) (hv : VecsC P fv) (hr : RevTC P fr) : SameFC P f := by
  intro m h1 h2
  refine PureC.is (pure_of hm hf (Nat.le_of_ble_eq_true rfl) ?_) rfl
  unfold law11_same.c
  have hv1 := hv m.verts h1
  simp [go_sem, Mesh.enc, Mesh.cs, tsV]
  refine ACall_is hv1 ?_
  simp [go_sem]
  refine AS_loop (α := Nat) (fun k => k ≤ m.tris.length) (fun k => ⟨[(2, .p 0 1 0 0), (3, .p 1 1 0 0), (5, .i .i64 k)], [.arr 1 2 [m.cs], .arr 1 2 [m.cs]]⟩) (fun k => m.tris.length - k) 0 (Nat.zero_le _) ?_ ?_
  · simp [go_sem, Mesh.cs, vsV, tsV]
  · intro k hk
    by_cases hkl : k = m.tris.length
    · subst hkl
      simp [go_sem, Mesh.cs, vsV, tsV, law11_same.r]
    · have hlt : k < m.tris.length := by omega
      have hp := tAt_get hlt
      generalize tAt m.tris k = t at hp
      obtain ⟨_, hp'⟩ := List.getElem?_eq_some_iff.1 hp
      cases e1 : (t.a == t.b)
      · cases e2 : (t.b == t.c)
        · cases e3 : (t.c == t.a)
          · simp (disch := omega) [go_sem, Sg_skip, NewOk, I.news, Mesh.cs, vsV, tsV, hlt, hp, hp', tcs, e1, e2, e3, wrap64_small]
            trace_state
            exact ⟨k + 1, by omega, by omega, by omega⟩
          · simp (disch := omega) [go_sem, Sg_skip, NewOk, I.news, Mesh.cs, vsV, tsV, hlt, hp, hp', tcs, e1, e2, e3, wrap64_small]
            exact ⟨k + 1, by omega, by omega, by omega⟩
        · simp (disch := omega) [go_sem, Sg_skip, NewOk, I.news, Mesh.cs, vsV, tsV, hlt, hp, hp', tcs, e1, e2, wrap64_small]
          exact ⟨k + 1, by omega, by omega, by omega⟩
      · simp (disch := omega) [go_sem, Sg_skip, NewOk, I.news, Mesh.cs, vsV, tsV, hlt, hp, hp', tcs, e1, wrap64_small]
        exact ⟨k + 1, by omega, by omega, by omega⟩

end
end Go.Abs
set_option linter.unusedVariables false
set_option linter.unusedSimpArgs false
namespace Go.Abs

theorem wrapu64_small {z : Int} (h1 : 0 ≤ z) (h2 : z ≤ 18446744073709551615) : IntKind.u64.wrap z = z := by
  simp only [IntKind.wrap, IntKind.bits, IntKind.signed]
  simp
  omega
theorem oriR_keep {vs : List V3} {ts : List T3} {L : List Int} (hz : (Mesh.mk vs ts).check = 0) (hL : IsLab ts L) {F1 F2 : List Int} (h1 : ∀ i : Nat, i < ts.length → L[i]? = some (i : Int) → (i : Int) ∉ F1) :
    (oriR ⟨vs, flp ts F1⟩).1 = (oriR ⟨vs, ts⟩).1 ∧ (oriR ⟨vs, flp ts F1⟩).2.2 = (oriR ⟨vs, ts⟩).2.2 ∧ (oriR ⟨vs, flp ts F2⟩).2.2 = (oriR ⟨vs, ts⟩).2.2 := by
  have e1 : orientL (flp ts F1) = orientL ts := orientL_keep hL (flp_Fl ts F1) fun i hi hLi => by rw [flp_at hi, if_neg (h1 i hi hLi)]
  have e2 := orientL_fl (flp_Fl ts F2)
  have z1 := (flp_Fl ts F1).check hz
  have z2 := (flp_Fl ts F2).check hz
  cases h : orientL ts with
  | none =>
    rw [oriR_err hz h, oriR_err z1 (by rw [show (Mesh.mk vs (flp ts F1)).tris = flp ts F1 from rfl, e1]; exact h), oriR_err z2 (e2.1 h)]
    exact ⟨rfl, rfl, rfl⟩
  | some us =>
    cases h3 : orientL (flp ts F2) with
    | none => rw [e2.2 h3] at h; simp at h
    | some us2 =>
      rw [oriR_ok hz h, oriR_ok z1 (us := us) (by rw [show (Mesh.mk vs (flp ts F1)).tris = flp ts F1 from rfl, e1]; exact h), oriR_ok z2 h3]
      exact ⟨rfl, rfl, rfl⟩

section
variable {P : Program} (hm : P.follows .mixedOrders = true)
include hm

set_option maxRecDepth 20000 in
set_option maxHeartbeats 8000000 in
theorem OrientFlips_ok {f fs fc fa fsh fr fo fe : FuncId} (hf : FnOk P f (law11_OrientFlips.c fs fc fa fsh fr fo fe) law11_OrientFlips.r law11_OrientFlips.n) (hs : SmallOC P fs) (hc : CheckC P fc) (ha : AwakeC P fa) (hsh : ShellsC P fsh) (hr : RevTC P fr) (ho : OrientC P fo) (he : SameFC P fe)
    (m : Mesh) (z : Int) : PureC P f [m.enc, .i .u64 z] (· = .b true) := by
  refine pure_of hm hf (Nat.le_of_ble_eq_true rfl) ?_
  unfold law11_OrientFlips.c
  have hs1 := hs m
  have hc1 := hc m
  simp only [Mesh.enc, Mesh.cs] at hs1 hc1
  simp [go_sem, Mesh.enc, Mesh.cs]
  refine ACall_is hs1 ?_
  cases h : m.smallO
  · simp [go_sem]
    refine ACall_is ha ?_
    simp [go_sem, law11_OrientFlips.r]
  have hl := smallO_len h
  simp [go_sem]
  refine ACall_is hc1 ?_
  by_cases hz : m.check = 0
  case neg =>
    have hz' : (m.check != 0) = true := by simpa using hz
    simp [go_sem, hz, hz']
    refine ACall_is ha ?_
    simp [go_sem, law11_OrientFlips.r]
  obtain ⟨L, hL⟩ := lab_ex m.tris
  have hR : m.shells = shsK L m.tris.length := by unfold Mesh.shells; rw [if_pos hz, labOf_eq hL, hL.len]
  have hshs : ∀ sh ∈ m.shells, ∃ q : Nat, q < m.tris.length ∧ sh[0]? = some (q : Int) := fun sh h => by
    rw [hR] at h
    obtain ⟨q, h1, h2, h3⟩ := shsK_mem.1 h
    rw [hL.len] at h3
    exact ⟨q, h1, by rw [h3]; exact shK_head hL h1 h2⟩
  have hfirst : ∀ i : Nat, i < m.tris.length → L[i]? = some (i : Int) → ∃ sh ∈ m.shells, sh[0]? = some (i : Int) := fun i hi hLi =>
    ⟨shK L i L.length, by rw [hR]; exact shsK_mem.2 ⟨i, hi, hLi, rfl⟩, by rw [hL.len]; exact shK_head hL hi hLi⟩
  have hok := shells_ok hz
  have hsh1 := hsh m
  have ho0 := ho m
  have hlen0 := oriR_len h
  have he1 := he (oriR m).1 (by omega) (by omega)
  have hkeep := fun F1 F2 h1 => oriR_keep (vs := m.verts) (ts := m.tris) (F1 := F1) (F2 := F2) hz hL h1
  simp only [Mesh.enc, Mesh.cs, vsV, tsV] at hsh1 ho0
  generalize m.shells = shs at *
  simp [go_sem, hz, vsV, tsV, mk_nil]
  refine ⟨⟨by omega, by omega⟩, ?_⟩
  refine ACall_is hsh1 ?_
  simp [go_sem]
  refine AS_loop (α := Nat × List Int) (fun p => p.1 ≤ shs.length ∧ ∀ v, v ∈ p.2 ↔ ∃ sh ∈ shs.take p.1, sh[0]? = some v)
    (fun p => ⟨[(1, .i .u64 z), (2, .p 0 1 0 0), (5, .own 1 1 0 m.tris.length), (6, lsV shs), (7, .i .i64 p.1)], [.arr 1 2 [m.cs], .arr 1 1 (mk m.tris.length p.2)]⟩)
    (fun p => shs.length - p.1) (0, []) ⟨Nat.zero_le _, by simp⟩ ?_ ?_
  · simp [go_sem, Mesh.cs, vsV, tsV, lsV]
    exact mk_cl _ _ _
  · rintro ⟨k, X⟩ ⟨hk, hX⟩
    simp only at hk hX ⊢
    by_cases hkl : k = shs.length
    · subst hkl
      rw [List.take_length] at hX
      have hXf : ∀ i : Nat, i < m.tris.length → L[i]? = some (i : Int) → (i : Int) ∈ X := fun i hi hLi => (hX _).2 (hfirst i hi hLi)
      simp [go_sem, Mesh.cs, vsV, tsV, lsV]
      refine ⟨⟨by omega, by omega⟩, ?_⟩
      refine AS_loop (α := Nat × List Int × List Int) (fun p => p.1 ≤ m.tris.length ∧ ∀ v ∈ p.2.1, v ∉ X)
        (fun p => ⟨[(1, .i .u64 z), (2, .p 0 1 0 0), (5, .own 1 1 0 m.tris.length), (6, lsV shs), (8, .p 3 1 0 0), (9, .p 5 1 0 0), (10, .i .i64 p.1)],
          [.arr 1 2 [m.cs], .arr 1 1 (mk m.tris.length X), .arr 1 3 ((flp m.tris p.2.1).map T3.cs), .arr 1 2 [[vsV m.verts, .own 2 1 0 m.tris.length]], .arr 1 3 ((flp m.tris p.2.2).map T3.cs), .arr 1 2 [[vsV m.verts, .own 4 1 0 m.tris.length]]]⟩)
        (fun p => m.tris.length - p.1) (0, [], []) ⟨Nat.zero_le _, by simp⟩ ?_ ?_
      · simp [go_sem, Mesh.cs, vsV, tsV, lsV, flp_nil, t3c_cl]
        exact mk_cl _ _ _
      · rintro ⟨i, F1, F2⟩ ⟨hi, hF⟩
        simp only at hi hF ⊢
        have hl1 := flp_len m.tris F1
        have hl2 := flp_len m.tris F2
        by_cases hil : i = m.tris.length
        · subst hil
          obtain ⟨k1, k2, k3⟩ := hkeep F1 F2 fun i hi hLi hm => hF _ hm (hXf i hi hLi)
          have ho1 := ho ⟨m.verts, flp m.tris F1⟩
          have ho2 := ho ⟨m.verts, flp m.tris F2⟩
          rw [show (Mesh.mk m.verts m.tris) = m from rfl] at k1 k2 k3
          generalize oriR ⟨m.verts, flp m.tris F1⟩ = r1 at *
          generalize oriR ⟨m.verts, flp m.tris F2⟩ = r2 at *
          generalize oriR m = r0 at *
          obtain ⟨x1, n1, e1⟩ := r1
          obtain ⟨x2, n2, e2⟩ := r2
          obtain ⟨x0, n0, e0⟩ := r0
          simp only at k1 k2 k3 he1 hlen0
          subst k1; subst k2; subst k3
          generalize flp m.tris F1 = T1 at *
          generalize flp m.tris F2 = T2 at *
          have tk1 : List.take m.tris.length (T1.map T3.cs) = T1.map T3.cs := List.take_of_length_le (by simp; omega)
          have tk2 : List.take m.tris.length (T2.map T3.cs) = T2.map T3.cs := List.take_of_length_le (by simp; omega)
          have hle1 : m.tris.length ≤ T1.length := by omega
          have hle2 : m.tris.length ≤ T2.length := by omega
          simp only [Mesh.enc, Mesh.cs] at he1
          simp [go_sem, Mesh.cs, vsV, tsV, lsV]
          refine ACall_is ho0 ?_
          simp [go_sem, mieV, Mesh.enc, Mesh.cs]
          refine ACall_frz (vs := [(Mesh.mk m.verts T1).enc]) ?_ ho1 ?_
          · simp [go_sem, frzAll, frz, frz0, Mesh.enc, Mesh.cs, vsV, tsV, tcs_isD, tk1, hle1]
          simp [go_sem, mieV, Mesh.enc, Mesh.cs]
          refine ACall_frz (vs := [(Mesh.mk m.verts T2).enc]) ?_ ho2 ?_
          · simp [go_sem, frzAll, frz, frz0, Mesh.enc, Mesh.cs, vsV, tsV, tcs_isD, tk2, hle2]
          cases es : ((shs.length : Int) == 0)
          · simp [go_sem, mieV, Mesh.enc, Mesh.cs, es]
            refine ACall_is he1 ?_
            simp [go_sem]
            refine ACall_is ha ?_
            simp [go_sem, law11_OrientFlips.r]
          · simp [go_sem, mieV, Mesh.enc, Mesh.cs, es]
            refine ACall_is ha ?_
            simp [go_sem, law11_OrientFlips.r]
        · have hlt : i < m.tris.length := by omega
          have hw := wrapu64_small (z := (i : Int)) (by omega) (by omega)
          have t1 := tAt_get hlt
          have hr1 := hr (tAt m.tris i)
          have hset1 := flp_set (ts := m.tris) (F := F1) hlt
          have hset2 := flp_set (ts := m.tris) (F := F2) hlt
          have hget2 := flp_get (ts := m.tris) (F := F2 ++ [(i : Int)]) hlt
          rw [if_pos (by simp)] at hget2
          have hl3 := flp_len m.tris (F2 ++ [(i : Int)])
          have hmg := mk_get (n := m.tris.length) (d := X) (v := (i : Int)) (by omega) (by omega)
          rw [Int.toNat_natCast] at hmg
          generalize tAt m.tris i = t at *
          obtain ⟨_, t1'⟩ := List.getElem?_eq_some_iff.1 t1
          obtain ⟨lg, hget2'⟩ := List.getElem?_eq_some_iff.1 hget2
          obtain ⟨lm, hmg'⟩ := List.getElem?_eq_some_iff.1 hmg
          simp [go_sem, T3.enc, tcs] at hr1
          have hs1 : ((flp m.tris F1).map T3.cs).set i [.i .i64 t.rev.a, .i .i64 t.rev.b, .i .i64 t.rev.c] = (flp m.tris (F1 ++ [(i : Int)])).map T3.cs := by rw [← hset1, List.map_set]; rfl
          have hs2 : ((flp m.tris F2).map T3.cs).set i [.i .i64 t.rev.a, .i .i64 t.rev.b, .i .i64 t.rev.c] = (flp m.tris (F2 ++ [(i : Int)])).map T3.cs := by rw [← hset2, List.map_set]; rfl
          clear hset1 hset2
          simp (disch := omega) [go_sem, Mesh.cs, vsV, tsV, lsV, hlt, t1, t1', hw, show ¬ ((i : Int) < 0) by omega, tcs, wrap64_small]
          refine ⟨fun _ => ?_, fun _ => ⟨i + 1, F1, ⟨by omega, hF⟩, by omega, by omega, mk_cl _ _ _, rfl, F2, rfl⟩⟩
          refine DCall_is hr1 ?_
          by_cases hiX : (i : Int) ∈ X
          · rw [decide_eq_true hiX] at hmg hmg'
            simp (disch := omega) [go_sem, Mesh.cs, vsV, tsV, lsV, hlt, hl1, hl2, hl3, hs2, hget2, hget2', lg, lm, hmg, hmg', tcs, wrap64_small]
            exact ⟨i + 1, F1, ⟨by omega, hF⟩, by omega, by omega, mk_cl _ _ _, rfl, F2 ++ [(i : Int)], rfl⟩
          · rw [decide_eq_false hiX] at hmg hmg'
            have hF2 : ∀ v ∈ F1 ++ [(i : Int)], v ∉ X := fun v hv => by
              rcases mem_snoc.1 hv with h | rfl
              · exact hF v h
              · exact hiX
            simp (disch := omega) [go_sem, Mesh.cs, vsV, tsV, lsV, hlt, hl1, hl2, hl3, hs1, hs2, hget2, hget2', lg, lm, hmg, hmg', tcs, wrap64_small]
            exact ⟨i + 1, F1 ++ [(i : Int)], ⟨by omega, hF2⟩, by omega, by omega, mk_cl _ _ _, rfl, F2 ++ [(i : Int)], rfl⟩
    · have hlt : k < shs.length := by omega
      have hp : shs[k]? = some shs[k] := List.getElem?_eq_getElem hlt
      have hmw : shs[k] ∈ shs := List.getElem_mem _
      have htk := take_succ_get hp
      generalize shs[k] = sh at hp hmw htk
      obtain ⟨_, hp'⟩ := List.getElem?_eq_some_iff.1 hp
      obtain ⟨q, hq, hh⟩ := hshs sh hmw
      obtain ⟨hsl, hh'⟩ := List.getElem?_eq_some_iff.1 hh
      have hshl := hok.len sh hmw
      have hnum := hok.num
      have hms := mk_set (n := m.tris.length) (d := X) (v := (q : Int)) (by omega)
      rw [Int.toNat_natCast] at hms
      have hml := mk_len m.tris.length X
      have hmg := mk_get (n := m.tris.length) (d := X) (v := (q : Int)) (by omega) (by omega)
      rw [Int.toNat_natCast] at hmg
      obtain ⟨_, hmg'⟩ := List.getElem?_eq_some_iff.1 hmg
      have hX2 : ∀ v, v ∈ X ++ [(q : Int)] ↔ ∃ sh ∈ shs.take (k + 1), sh[0]? = some v := fun v => by
        rw [mem_snoc, hX, htk]
        constructor
        · rintro (⟨s, h1, h2⟩ | rfl)
          · exact ⟨s, List.mem_append.2 (.inl h1), h2⟩
          · exact ⟨sh, List.mem_append.2 (.inr (by simp)), hh⟩
        · rintro ⟨s, h1, h2⟩
          rcases List.mem_append.1 h1 with h1 | h1
          · exact .inl ⟨s, h1, h2⟩
          · simp at h1; subst h1
            rw [hh] at h2
            exact .inr (Option.some.inj h2).symm
      have e0 : decide ((0 : Int) < sh.length) = true := by simp; omega
      simp (disch := omega) [go_sem, Mesh.cs, vsV, tsV, lsV, isV, hlt, hp, hp', hh, hh', hsl, e0, hq, hms, hml, hmg, hmg', show (0 : Int) ≤ (q : Int) by omega, show (q : Int) < (m.tris.length : Int) by omega, wrap64_small]
      exact ⟨k + 1, X ++ [(q : Int)], ⟨by omega, hX2⟩, by omega, by omega, rfl, mk_cl _ _ _⟩
end
end Go.Abs
