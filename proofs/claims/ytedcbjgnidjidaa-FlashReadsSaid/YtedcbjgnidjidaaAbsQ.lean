/- Part of the abstract machine on which the proof stands: its values, code and their soundness against the model. -/
import Derived.Test.YtedcbjgnidjidaaAbsP
set_option linter.unusedVariables false
set_option linter.unusedSimpArgs false
namespace Go.Abs
open Go.RowKit

/-- What an instruction does, in a state that is given by a function. -/
def TDo (P : Program) (x : Ins) (E : Nat → V) (h : List O) (r : V) (h' : List O) : Prop :=
  (∃ t want b, x.g = some (t, want) ∧ E t = .b b ∧ b = !want ∧ r = .any ∧ h' = h) ∨
  ((x.g = none ∨ ∃ t want, x.g = some (t, want) ∧ E t = .b want) ∧
    ((∃ f args, x.i = .call f args ∧ CallIs P f (args.map (evF E)) r ∧ h' = h) ∨ ((∀ f args, x.i ≠ .call f args) ∧ (∀ c args, x.i ≠ .callv c args) ∧ stepI x.i (evF E) h = some (r, h'))))

theorem D1_do {P : Program} {x : Ins} {σ : St} {κ : St → Prop} (h : D1 P x σ κ) : ∃ r h', κ ⟨putD x.d r σ.env, h'⟩ ∧
    ((∃ f args, x.i = .call f args ∧ CallIs P f (args.map (evF fun t => get t σ.env)) r ∧ h' = σ.h) ∨ ((∀ f args, x.i ≠ .call f args) ∧ (∀ c args, x.i ≠ .callv c args) ∧ stepI x.i (evF fun t => get t σ.env) σ.h = some (r, h'))) := by
  unfold D1 at h
  rw [evF_get]
  split at h
  · rename_i f args hi
    obtain ⟨r, h1, h2⟩ := h
    exact ⟨r, σ.h, h2, .inl ⟨f, args, hi, h1, rfl⟩⟩
  · exact h.elim
  · rename_i hn1 hn2
    split at h
    · rename_i r h' hs
      exact ⟨r, h', h, .inr ⟨fun f args hh => hn1 f args hh, fun c args hh => hn2 c args hh, hs⟩⟩
    · exact h.elim

theorem AD_run {P : Program} : ∀ (xs : List Ins) (σ : St) (κ : St → Prop), AD P xs σ κ →
    ∃ (sq : Nat → St) (rv : Nat → V), sq 0 = σ ∧ (∀ (k : Nat) (x : Ins), xs[k]? = some x → TDo P x (fun t => get t (sq k).env) (sq k).h (rv k) (sq (k + 1)).h ∧ (sq (k + 1)).env = putD x.d (rv k) (sq k).env) ∧ κ (sq xs.length)
  | [], σ, κ, h => ⟨fun _ => σ, fun _ => .any, rfl, by simp, h⟩
  | x :: xs, σ, κ, h => by
    have key : ∃ r h', TDo P x (fun t => get t σ.env) σ.h r h' ∧ AD P xs ⟨putD x.d r σ.env, h'⟩ κ := by
      simp only [AD] at h
      cases hg : x.g with
      | none =>
        rw [hg] at h
        obtain ⟨r, h', h1, h2⟩ := D1_do h
        exact ⟨r, h', .inr ⟨.inl hg, h2⟩, h1⟩
      | some p =>
        obtain ⟨t, want⟩ := p
        rw [hg] at h
        simp only [Guard] at h
        split at h
        case h_2 => exact h.elim
        rename_i b hb
        by_cases hbw : b = want
        · subst hbw
          obtain ⟨r, h', h1, h2⟩ := D1_do (h.1 rfl)
          exact ⟨r, h', .inr ⟨.inr ⟨t, b, hg, hb⟩, h2⟩, h1⟩
        · have hn : b = !want := by cases b <;> cases want <;> simp at hbw ⊢
          exact ⟨.any, σ.h, .inl ⟨t, want, b, hg, hb, hn, rfl, rfl⟩, h.2 hn⟩
    obtain ⟨r, h', h1, h2⟩ := key
    obtain ⟨sq, rv, h3, h4, h5⟩ := AD_run xs _ κ h2
    refine ⟨fun k => match k with | 0 => σ | k + 1 => sq k, fun k => match k with | 0 => r | k + 1 => rv k, rfl, fun k y hk => ?_, h5⟩
    cases k with
    | zero =>
      simp at hk
      subst hk
      simp only [h3]
      exact ⟨h1, trivial⟩
    | succ k =>
      simp at hk
      exact h4 k y hk

theorem TDo.congr2 {P : Program} {x : Ins} {E E' : Nat → V} {h h' : List O} {r : V} (hd : TDo P x E h r h') (hE : ∀ t ∈ x.uses, E t = E' t) : TDo P x E' h r h' := by
  have hg : ∀ t want, x.g = some (t, want) → E' t = E t := fun t want hx => (hE t (by simp [Ins.uses, hx])).symm
  have hu : ∀ t ∈ x.i.uses, E t = E' t := fun t ht => hE t (by simp [Ins.uses, ht])
  rcases hd with ⟨t, want, b, q1, q2, q3, q4, q5⟩ | ⟨q1, q2⟩
  · exact .inl ⟨t, want, b, q1, by rw [hg t want q1]; exact q2, q3, q4, q5⟩
  · refine .inr ⟨q1.imp id (fun ⟨t, want, q3, q4⟩ => ⟨t, want, q3, by rw [hg t want q3]; exact q4⟩), ?_⟩
    rcases q2 with ⟨f, args, q3, q4, q5⟩ | ⟨q3, q4, q5⟩
    · exact .inl ⟨f, args, q3, by rw [q3] at hu; rw [← evF_congrL (E := E) (E' := E') (fun t ht => hu t (by simpa [I.uses] using ht))]; exact q4, q5⟩
    · exact .inr ⟨q3, q4, by rw [← stepI_congr hu]; exact q5⟩

theorem TDo.congr1 {P : Program} {x : Ins} {E E' : Nat → V} {h h2 h' : List O} {r : V} (hd : TDo P x E h r h') (hE : ∀ t ∈ x.uses, E t = E' t) (hc : x.i.cls ≠ 2) (hh : 1 ≤ x.i.cls → h2 = h) : TDo P x E' h2 r h2 := by
  have hd := hd.congr2 hE
  rcases hd with ⟨t, want, b, q1, q2, q3, q4, q5⟩ | ⟨q1, q2⟩
  · exact .inl ⟨t, want, b, q1, q2, q3, q4, rfl⟩
  · refine .inr ⟨q1, ?_⟩
    rcases q2 with ⟨f, args, q3, q4, q5⟩ | ⟨q3, q4, q5⟩
    · exact .inl ⟨f, args, q3, q4, rfl⟩
    · refine .inr ⟨q3, q4, ?_⟩
      by_cases h0 : x.i.cls = 0
      · exact stepI_pure h0 q5
      · have h2h := hh (by omega)
        have := stepI_reads hc q5
        rw [h2h]
        rw [this] at q5; exact q5

theorem getD_any {listed : Array Bool} {k : Nat} (h : k < listed.size) (d : Bool) : listed.getD k d = listed[k] := by simp [Array.getD, h]

theorem TDo.heap {P : Program} {x : Ins} {E : Nat → V} {h h' : List O} {r : V} (hd : TDo P x E h r h') (hc : x.i.cls ≠ 2) : h' = h := by
  rcases hd with ⟨_, _, _, _, _, _, _, q⟩ | ⟨_, ⟨_, _, _, _, q⟩ | ⟨_, _, q⟩⟩
  · exact q
  · exact q
  · exact stepI_reads hc q

section
variable {P : Program}

/-- the operation of a TDo -/
theorem tdo_op {N : Nat} {ops : Array Oper} {imm : Bool} {o : Oper} {x : Ins} (hx : convIns P N ops imm o = some x) {J : Nat → Prop} {m : List Ent} {E : Nat → V} {h h' : List O} {r : V} {a : Act} {w : World} (hr : RelF N J m E h a w)
    (hd : TDo P x E h r h') {i : Nat} (ho : ops[i]? = some o) {K : Act → World → Prop} {Q : Exit → Act → World → Prop}
    (hK : ∀ J' m' a' w', RelF N J' m' (putF x.d r E) h' a' w' → (∀ n, Ev n J m w J' m' w') → K a' w') : wpOp P ops Q i K a w := by
  obtain ⟨_, hdl, hxd, hg⟩ := convIns_parts hx
  have hw := wanted_ok hr hg
  unfold wpOp
  simp only [ho]
  rcases hd with ⟨t, want, b, q1, q2, q3, q4, q5⟩ | ⟨q1, q2⟩
  · rw [q1] at hw
    have := hw b q2
    have hbw : (b == want) = false := by subst q3; cases want <;> rfl
    rw [this, hbw]
    simp only [Bool.false_eq_true, if_false]
    subst q4; subst q5
    refine hK J m _ w ?_ (fun n => Ev.refl n J m w)
    rw [hxd]
    exact hr.put (Ev.refl 0 J m w) (Ml.refl m) hr.rs hdl trivial
  · have hwt : Region.wanted o (yielded ops a.tmps) = true := by
      rcases q1 with q1 | ⟨t, want, q1, q3⟩
      · rw [q1] at hw; exact hw
      · rw [q1] at hw
        have := hw want q3
        rw [this]; simp
    rw [hwt]
    simp only [if_true]
    left
    rcases q2 with ⟨f, args, q3, q4, q5⟩ | ⟨q3, q4, q5⟩
    · refine ins_ok hx hr (κ := fun r' h'' => r' = r ∧ h'' = h') ?_ ?_
      · rw [q3]
        exact (q4 h).mono fun _ _ hh => ⟨hh.1, hh.2.trans q5.symm⟩
      · rintro r' h'' J' m' a' w' ⟨rfl, rfl⟩ hr' hev _
        exact hK J' m' a' w' hr' hev
    · refine ins_ok hx hr (κ := fun r' h'' => r' = r ∧ h'' = h') ?_ ?_
      · generalize x.i = ii at *
        cases ii <;> first | exact absurd rfl (q3 _ _) | exact absurd rfl (q4 _ _) | (simp only [q5]; exact ⟨trivial, trivial⟩)
      · rintro r' h'' J' m' a' w' ⟨rfl, rfl⟩ hr' hev _
        exact hK J' m' a' w' hr' hev

/-- THE TEXT's ORDER SERVES ALL ORDERS. -/
theorem drw_ok {N n : Nat} {ops : Array Oper} {xs : List Ins} (hl : ops.toList.length = xs.length) (hk : ∀ (k : Nat) (o : Oper) (x : Ins), ops.toList[k]? = some o → xs[k]? = some x → ∃ imm, convIns P N ops imm o = some x)
    (hord : orderOk ops.toList xs = true) {σ : St} {κ : St → Prop} (had : AD P xs σ κ) {J : Nat → Prop} {m : List Ent} {a : Act} {w : World} (hr : RelF N J m (fun t => get t σ.env) σ.h a w) {Q : Exit → Act → World → Prop}
    (hQ : ∀ σ' J' m' a' w', κ σ' → RelF N J' m' (fun t => get t σ'.env) σ'.h a' w' → Ev n J m w J' m' w' → Q .normal a' w') : wpAny P .any ops Q ops.size (Array.replicate ops.size false) a w := by
  obtain ⟨sq, rv, hs0, hsq, hκ⟩ := AD_run xs σ κ had
  have hsz : ops.size = xs.length := by simpa using hl
  simp only [orderOk, Bool.and_eq_true, List.all_eq_true, List.mem_range] at hord
  obtain ⟨hedge, hconf⟩ := hord
  have hB : MaskOk ops.toList (befs ops.toList []) := befs_ok ops.toList [] [] rfl ⟨by simp, by simp⟩
  have hBl : (befs ops.toList []).length = xs.length := by rw [befs_len]; simpa using hl
  -- the state in the text's order, by the last writers
  let D : Nat → Option Nat := fun k => (xs[k]?).bind (·.d)
  let CL : Nat → Bool := fun k => match xs[k]? with | some x => x.i.cls == 2 | none => false
  let wr : Nat → Nat → Bool := fun t k => D k == some t
  let stE : (Nat → Bool) → Nat → Nat → V := fun S k t => match lastW (fun i => S i && wr t i) k with | some i => rv i | none => get t σ.env
  let stH : (Nat → Bool) → Nat → List O := fun S k => match lastW (fun i => S i && CL i) k with | some i => (sq (i + 1)).h | none => σ.h
  have hseqE : ∀ k, k ≤ xs.length → ∀ t, get t (sq k).env = stE (fun _ => true) k t := by
    intro k
    induction k with
    | zero => intro _ t; simp [stE, lastW, hs0]
    | succ k ih =>
      intro hk t
      have hkl : k < xs.length := by omega
      obtain ⟨_, henv⟩ := hsq k xs[k] (List.getElem?_eq_getElem hkl)
      have hget : get t (sq (k + 1)).env = putF (xs[k]).d (rv k) (fun t => get t (sq k).env) t := by rw [henv]; exact congrFun (get_putD _ _ _) t
      rw [hget]
      have hDk : D k = xs[k].d := by simp [D, hkl]
      simp only [putF, stE, lastW, Bool.true_and, wr, hDk]
      by_cases hd : xs[k].d = some t
      · simp [hd]
      · have : (xs[k].d == some t) = false := by simpa using hd
        simp only [hd, if_false, this, Bool.false_eq_true]
        exact ih (by omega) t
  have hseqH : ∀ k, k ≤ xs.length → (sq k).h = stH (fun _ => true) k := by
    intro k
    induction k with
    | zero => intro _; simp [stH, lastW, hs0]
    | succ k ih =>
      intro hk
      have hkl : k < xs.length := by omega
      obtain ⟨hdo, _⟩ := hsq k xs[k] (List.getElem?_eq_getElem hkl)
      have hCk : CL k = (xs[k].i.cls == 2) := by simp [CL, hkl]
      simp only [stH, lastW, Bool.true_and, hCk]
      by_cases hc : xs[k].i.cls = 2
      · simp [hc]
      · have : (xs[k].i.cls == 2) = false := by simpa using hc
        simp only [this, Bool.false_eq_true, if_false]
        rw [hdo.heap hc]
        exact ih (by omega)
  -- the schedule
  have main : ∀ (f : Nat) (listed : Array Bool) (J' : Nat → Prop) (m' : List Ent) (a' : Act) (w' : World),
      listed.size = ops.size → (∀ (j : Nat) (o : Oper), ops.toList[j]? = some o → listed.getD j false = true → ∀ e ∈ o.after.toList, Region.binds .any e = true → listed.getD e.on false = true) →
      ((List.range xs.length).filter fun i => !listed.getD i false).length ≤ f →
      RelF N J' m' (stE (fun k => listed.getD k false) xs.length) (stH (fun k => listed.getD k false) xs.length) a' w' → Ev n J m w J' m' w' → wpAny P .any ops Q f listed a' w' := by
    have hdone : ∀ (listed : Array Bool) (J' : Nat → Prop) (m' : List Ent) (a' : Act) (w' : World), (∀ k, k < xs.length → listed.getD k false = true) →
        RelF N J' m' (stE (fun k => listed.getD k false) xs.length) (stH (fun k => listed.getD k false) xs.length) a' w' → Ev n J m w J' m' w' → Q .normal a' w' := by
      intro listed J' m' a' w' hall hrel hev
      have e1 : stE (fun k => listed.getD k false) xs.length = fun t => get t (sq xs.length).env := by
        funext t
        rw [hseqE _ (Nat.le_refl _)]
        simp only [stE]
        rw [lastW_congr (q' := fun i => true && wr t i) (fun k hk => by rw [hall k hk])]
      have e2 : stH (fun k => listed.getD k false) xs.length = (sq xs.length).h := by
        rw [hseqH _ (Nat.le_refl _)]
        simp only [stH]
        rw [lastW_congr (q' := fun i => true && CL i) (fun k hk => by rw [hall k hk])]
      rw [e1, e2] at hrel
      exact hQ _ J' m' a' w' hκ hrel hev
    have hreadynil : ∀ (listed : Array Bool), listed.size = ops.size → Region.ready .any ops listed = [] → ∀ k, k < xs.length → listed.getD k false = true := by
      intro listed hlsz hnil
      intro k
      induction k using Nat.strongRecOn with
      | _ k ih =>
        intro hk
        cases hb : listed.getD k false with
        | true => rfl
        | false =>
          exfalso
          have hko : k < ops.size := by omega
          have hmem : k ∈ Region.ready .any ops listed := by
            rw [mem_ready]
            have hkl : k < listed.size := by omega
            refine ⟨by rw [getD_any hkl] at hb ⊢; exact hb, ops[k], Array.getElem?_eq_getElem hko, fun e he hbd => ?_⟩
            have h1 := hedge k (by simpa using hko)
            rw [show ops.toList[k]? = some ops[k] by simp [hko]] at h1
            have h2 := List.all_eq_true.1 h1 e (Array.mem_toList_iff.2 he)
            simp only [hbd, Bool.not_true, Bool.false_or, decide_eq_true_eq] at h2
            exact ih e.on h2 (by omega)
          rw [hnil] at hmem
          simp at hmem
    intro f
    induction f with
    | zero =>
      intro listed J' m' a' w' hlsz hcl hcnt hrel hev
      have hall : ∀ k, k < xs.length → listed.getD k false = true := by
        intro k hk
        cases hb : listed.getD k false with
        | true => rfl
        | false =>
          exfalso
          have : k ∈ (List.range xs.length).filter fun i => !listed.getD i false := List.mem_filter.2 ⟨List.mem_range.2 hk, by rw [hb]; rfl⟩
          have := List.length_pos_of_mem this
          omega
      refine ⟨?_, hdone listed J' m' a' w' hall hrel hev⟩
      apply List.eq_nil_iff_forall_not_mem.2
      intro k hmem
      rw [mem_ready] at hmem
      obtain ⟨h1, o, h2, _⟩ := hmem
      have hkl : k < ops.size := (Array.getElem?_eq_some_iff.1 h2).1
      have := hall k (by omega)
      have hkl' : k < listed.size := by omega
      rw [getD_any hkl'] at h1 this
      rw [this] at h1; simp at h1
    | succ f ih =>
      intro listed J' m' a' w' hlsz hcl hcnt hrel hev
      refine ⟨fun hnil => hdone listed J' m' a' w' (hreadynil listed hlsz hnil) hrel hev, fun j hj => ?_⟩
      have hj' := hj
      rw [mem_ready] at hj
      obtain ⟨hjn, o, ho, hdeps⟩ := hj
      have hjo : j < ops.size := (Array.getElem?_eq_some_iff.1 ho).1
      have hjx : j < xs.length := by omega
      have hjl : j < listed.size := by omega
      have hnl : listed.getD j false = false := by rw [getD_any hjl] at hjn ⊢; exact hjn
      have hoL : ops.toList[j]? = some o := by simpa using ho
      obtain ⟨imm, hx⟩ := hk j o xs[j] hoL (List.getElem?_eq_getElem hjx)
      obtain ⟨hdo, _⟩ := hsq j xs[j] (List.getElem?_eq_getElem hjx)
      -- all that must come before is listed
      have hbef : ∀ i, ((befs ops.toList []).getD j 0).testBit i = true → listed.getD i false = true := by
        intro i hb
        refine mask_closed hB (S := fun k => listed.getD k false = true) hcl j (fun o' ho' e he hbd => ?_) i (by omega) hb
        obtain rfl := Option.some.inj (hoL.symm.trans ho')
        exact hdeps e (Array.mem_toList_iff.1 he) hbd
      have hafter : ∀ k, (hk : k < xs.length) → j < k → listed.getD k false = true → conf xs[j] (xs[k]'hk) = false := by
        intro k hk hjk hlk
        cases hc : conf xs[j] (xs[k]'hk) with
        | false => rfl
        | true =>
          exfalso
          have h1 := hconf k hk j hjk
          rw [List.getElem?_eq_getElem hjx, List.getElem?_eq_getElem hk] at h1
          simp only [hc, Bool.not_true, Bool.false_or] at h1
          have hko : k < ops.size := by omega
          have h2 := mask_closed hB (S := fun k => listed.getD k false = true) hcl k (fun o' ho' e he hbd => hcl k o' ho' hlk e he hbd) j (by omega) h1
          rw [hnl] at h2; simp at h2
      have hbefore : ∀ i, (hi : i < j) → conf (xs[i]'(by omega)) xs[j] = true → listed.getD i false = true := by
        intro i hi hc
        have h1 := hconf j hjx i hi
        rw [List.getElem?_eq_getElem (show i < xs.length by omega), List.getElem?_eq_getElem hjx] at h1
        simp only [hc, Bool.not_true, Bool.false_or] at h1
        exact hbef i h1
      -- agreement
      have hagree : ∀ (p : Nat → Bool), (∀ i, (hi : i < xs.length) → p i = true → i < j → conf (xs[i]'hi) xs[j] = true) → (∀ i, (hi : i < xs.length) → p i = true → j < i → conf xs[j] (xs[i]'hi) = true) →
          lastW (fun i => listed.getD i false && p i) xs.length = lastW (fun i => true && p i) j := by
        intro p h1 h2
        rw [lastW_bound (j := j) (by omega) (fun k hk1 hk2 => ?_)]
        · refine lastW_congr fun k hk => ?_
          cases hp : p k with
          | false => simp
          | true =>
            have hc := h1 k (by omega) hp hk
            simp [hbefore k hk hc]
        · cases hp : p k with
          | false => simp
          | true =>
            by_cases hkj : k = j
            · subst hkj; simp [hnl]
            · have hc := h2 k hk2 hp (by omega)
              cases hlk : listed.getD k false with
              | false => rfl
              | true =>
                have := hafter k hk2 (by omega) hlk
                rw [hc] at this; simp at this
      have hE : ∀ t ∈ xs[j].uses, get t (sq j).env = stE (fun k => listed.getD k false) xs.length t := by
        intro t ht
        rw [hseqE j (by omega)]
        simp only [stE]
        rw [hagree (wr t)]
        · intro i hi hp hij
          simp only [wr, D, List.getElem?_eq_getElem hi, Option.bind_some, beq_iff_eq] at hp
          simp [conf, hp, ht]
        · intro i hi hp hij
          simp only [wr, D, List.getElem?_eq_getElem hi, Option.bind_some, beq_iff_eq] at hp
          simp [conf, hp, ht]
      have hH : 1 ≤ xs[j].i.cls → stH (fun k => listed.getD k false) xs.length = (sq j).h := by
        intro hc1
        rw [hseqH j (by omega)]
        simp only [stH]
        rw [hagree CL]
        · intro i hi hp hij
          simp only [CL, List.getElem?_eq_getElem hi] at hp
          simp [conf, hp, hc1]
        · intro i hi hp hij
          simp only [CL, List.getElem?_eq_getElem hi] at hp
          simp [conf, hp, hc1]
      -- the new set
      have hS' : ∀ k, (listed.setIfInBounds j true).getD k false = (listed.getD k false || k == j) := by
        intro k
        by_cases hkj : j = k
        · subst hkj
          rw [getD_any (by simpa using hjl)]
          simp
        · rw [getD_set_ne false hkj]
          have : (k == j) = false := by simp; omega
          rw [this, Bool.or_false]
      have hnewE : putF xs[j].d (rv j) (stE (fun k => listed.getD k false) xs.length) = stE (fun k => (listed.setIfInBounds j true).getD k false) xs.length := by
        funext t
        simp only [putF, stE, hS']
        by_cases hd : xs[j].d = some t
        · rw [if_pos hd]
          rw [lastW_of (i := j) (by simp [wr, D, List.getElem?_eq_getElem hjx, hd]) hjx (fun k hk1 hk2 => ?_)]
          have hkj : (k == j) = false := by simp; omega
          rw [hkj, Bool.or_false]
          cases hlk : listed.getD k false with
          | false => rfl
          | true =>
            have hc := hafter k hk2 hk1 hlk
            simp only [conf, hd, Bool.or_eq_false_iff] at hc
            have hne : ((xs[k]'hk2).d == some t) = false := hc.1.1.1.2
            simp only [wr, D, List.getElem?_eq_getElem hk2, Option.bind_some, Bool.true_and]
            exact hne
        · rw [if_neg hd]
          have hcg : lastW (fun i => (listed.getD i false || i == j) && wr t i) xs.length = lastW (fun i => listed.getD i false && wr t i) xs.length := lastW_congr fun k hk => by
            by_cases hkj : k = j
            · subst hkj
              have hw0 : wr t k = false := by simp only [wr, D, List.getElem?_eq_getElem hjx, Option.bind_some]; simpa using hd
              rw [hw0, Bool.and_false, Bool.and_false]
            · have hb0 : (k == j) = false := by simpa using hkj
              rw [hb0, Bool.or_false]
          rw [hcg]
      have hnewH2 : xs[j].i.cls = 2 → (sq (j + 1)).h = stH (fun k => (listed.setIfInBounds j true).getD k false) xs.length := by
        intro hc2
        simp only [stH, hS']
        rw [lastW_of (i := j) (by simp [CL, List.getElem?_eq_getElem hjx, hc2]) hjx (fun k hk1 hk2 => ?_)]
        have hkj : (k == j) = false := by simp; omega
        rw [hkj, Bool.or_false]
        cases hlk : listed.getD k false with
        | false => rfl
        | true =>
          have hc := hafter k hk2 hk1 hlk
          simp only [conf, hc2, Bool.or_eq_false_iff] at hc
          have hne := hc.1.2
          simp only [CL, List.getElem?_eq_getElem hk2, Bool.true_and]
          simp at hne
          simp; omega
      have hnewH1 : xs[j].i.cls ≠ 2 → stH (fun k => listed.getD k false) xs.length = stH (fun k => (listed.setIfInBounds j true).getD k false) xs.length := by
        intro hc2
        simp only [stH, hS']
        have hcg : lastW (fun i => (listed.getD i false || i == j) && CL i) xs.length = lastW (fun i => listed.getD i false && CL i) xs.length := lastW_congr fun k hk => by
          by_cases hkj : k = j
          · subst hkj
            have hw0 : CL k = false := by simp only [CL, List.getElem?_eq_getElem hjx]; simpa using hc2
            rw [hw0, Bool.and_false, Bool.and_false]
          · have hb0 : (k == j) = false := by simpa using hkj
            rw [hb0, Bool.or_false]
        rw [hcg]
      have hfin : TDo P xs[j] (stE (fun k => listed.getD k false) xs.length) (stH (fun k => listed.getD k false) xs.length) (rv j) (stH (fun k => (listed.setIfInBounds j true).getD k false) xs.length) := by
        by_cases hc2 : xs[j].i.cls = 2
        · rw [← hnewH2 hc2, hH (by omega)]
          exact hdo.congr2 hE
        · rw [← hnewH1 hc2]
          exact hdo.congr1 hE hc2 hH
      refine tdo_op hx hrel hfin ho fun J'' m'' a'' w'' hr'' hev'' => ?_
      rw [hnewE] at hr''
      refine ih (listed.setIfInBounds j true) J'' m'' a'' w'' (by simpa using hlsz) ?_ ?_ hr'' (hev.trans (hev'' n))
      · intro k o' ho' hlk e he hbd
        rw [hS'] at hlk ⊢
        by_cases hkj : k = j
        · subst hkj
          obtain rfl := Option.some.inj (hoL.symm.trans ho')
          rw [hdeps e (Array.mem_toList_iff.1 he) hbd]; rfl
        · have hb : (k == j) = false := by simpa using hkj
          rw [hb, Bool.or_false] at hlk
          rw [hcl k o' ho' hlk e he hbd]; rfl
      · have hlt : ((List.range xs.length).filter fun i => !(listed.setIfInBounds j true).getD i false).length < ((List.range xs.length).filter fun i => !listed.getD i false).length := by
          have e1 : ((List.range xs.length).filter fun i => !(listed.setIfInBounds j true).getD i false) = ((List.range xs.length).filter fun i => !listed.getD i false).filter fun i => !(i == j) := by
            rw [List.filter_filter]
            congr 1
            funext i
            rw [hS']
            cases listed.getD i false <;> cases (i == j) <;> rfl
          rw [e1]
          have hmem : j ∈ (List.range xs.length).filter fun i => !listed.getD i false := List.mem_filter.2 ⟨List.mem_range.2 hjx, by rw [hnl]; rfl⟩
          rcases Nat.lt_or_ge (((List.range xs.length).filter fun i => !listed.getD i false).filter fun i => !(i == j)).length ((List.range xs.length).filter fun i => !listed.getD i false).length with h | h
          · exact h
          · exfalso
            have h1 := List.length_filter_le (fun i => !(i == j)) ((List.range xs.length).filter fun i => !listed.getD i false)
            have h2 : (((List.range xs.length).filter fun i => !listed.getD i false).filter fun i => !(i == j)).length = ((List.range xs.length).filter fun i => !listed.getD i false).length := by omega
            rw [List.length_filter_eq_length_iff] at h2
            have := h2 j hmem
            simp at this
        omega
  have hrep : ∀ k, (Array.replicate ops.size false).getD k false = false := fun k => by
    rcases Nat.lt_or_ge k ops.size with h | h
    · simp [Array.getD, h]
    · simp [Array.getD, h]
  refine main ops.size (Array.replicate ops.size false) J m a w (by simp) (fun j o _ hlj => by rw [hrep] at hlj; simp at hlj) ?_ ?_ (Ev.refl n J m w)
  · refine Nat.le_trans (List.length_filter_le _ _) ?_
    simp; omega
  · have e1 : stE (fun k => (Array.replicate ops.size false).getD k false) xs.length = fun t => get t σ.env := by
      funext t
      simp only [stE, hrep, Bool.false_and]
      rw [lastW_bound (j := 0) (by omega) (fun _ _ _ => rfl)]
      rfl
    have e2 : stH (fun k => (Array.replicate ops.size false).getD k false) xs.length = σ.h := by
      simp only [stH, hrep, Bool.false_and]
      rw [lastW_bound (j := 0) (by omega) (fun _ _ _ => rfl)]
      rfl
    rw [e1, e2]; exact hr
end
end Go.Abs
