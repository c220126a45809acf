/- Part of the abstract machine on which the proof stands: its values, code and their soundness against the model. -/
import Derived.Test.YtoppidobgkgiiaaAbsX
set_option linter.unusedVariables false
set_option linter.unusedSimpArgs false
namespace Go.Abs
open Go.RowKit

/- LOOPS THAT KEEP SOME OF THEIR STATE; FUNCTIONS THAT WORK ON THE CALLER's OBJECTS. -/

/-- These temporaries, as they are. -/
def keepE (l : List Nat) (env : List (Nat × V)) : List (Nat × V) := l.map fun t => (t, get t env)

section
variable {P : Program}

theorem AS_loopI {n : Nat} {κ : X → St → Prop} {c : C} {env : List (Nat × V)} {h : List O} (inv : List Nat) {α : Type} (φ : α → Prop) (Δ : α → List (Nat × V)) (H : α → List O) (μ : α → Nat) (x : α) (hx : φ x)
    (hw : Weak n ⟨env, h⟩ ⟨Δ x ++ keepE inv env, H x⟩)
    (hs : ∀ x, φ x → AS P n c ⟨Δ x ++ keepE inv env, H x⟩ (Lk n φ (fun x => ⟨Δ x ++ keepE inv env, H x⟩) μ x κ)) : AS P n (.loop c) ⟨env, h⟩ κ :=
  AS_loop φ _ μ x hx hw hs

/-- The same, the objects staying as they are. -/
theorem AS_loopK {n : Nat} {κ : X → St → Prop} {c : C} {env : List (Nat × V)} {h : List O} (inv : List Nat) {α : Type} (φ : α → Prop) (Δ : α → List (Nat × V)) (μ : α → Nat) (x : α) (hx : φ x)
    (hw : Weak n ⟨env, h⟩ ⟨Δ x ++ keepE inv env, h⟩)
    (hs : ∀ x, φ x → AS P n c ⟨Δ x ++ keepE inv env, h⟩ (Lk n φ (fun x => ⟨Δ x ++ keepE inv env, h⟩) μ x κ)) : AS P n (.loop c) ⟨env, h⟩ κ :=
  AS_loop φ _ μ x hx hw hs

theorem keepE_nil (env : List (Nat × V)) : keepE [] env = [] := _root_.id rfl
theorem keepE_cons (t : Nat) (l : List Nat) (env : List (Nat × V)) : keepE (t :: l) env = (t, get t env) :: keepE l env := _root_.id rfl
attribute [go_sem] keepE_nil keepE_cons

/-- What is asked of the state at the end of a call on the caller's objects; the last of the new ones may be forgotten. -/
def DoneA (n : Nat) (rs : List Rr) (R : V → List O → Prop) (x : X) (σ : St) : Prop :=
  match x with
  | .e _ => False
  | _ => ∃ vs h1, rs.mapM (readR σ) = some vs ∧ vs.all V.noT = true ∧ vs.all (V.cl h1.length) = true ∧ n ≤ h1.length ∧ h1.length ≤ σ.h.length ∧ WeakH h1.length σ.h h1 ∧ R (tupV vs) h1

theorem DoneA_n {n : Nat} {rs : List Rr} {R : V → List O → Prop} {σ : St} : DoneA n rs R .n σ = ∃ vs h1, rs.mapM (readR σ) = some vs ∧ vs.all V.noT = true ∧ vs.all (V.cl h1.length) = true ∧ n ≤ h1.length ∧ h1.length ≤ σ.h.length ∧ WeakH h1.length σ.h h1 ∧ R (tupV vs) h1 := _root_.id rfl
theorem DoneA_r {n : Nat} {rs : List Rr} {R : V → List O → Prop} {σ : St} : DoneA n rs R .r σ = ∃ vs h1, rs.mapM (readR σ) = some vs ∧ vs.all V.noT = true ∧ vs.all (V.cl h1.length) = true ∧ n ≤ h1.length ∧ h1.length ≤ σ.h.length ∧ WeakH h1.length σ.h h1 ∧ R (tupV vs) h1 := _root_.id rfl
theorem DoneA_e {n : Nat} {rs : List Rr} {R : V → List O → Prop} {σ : St} (id : Nat) : DoneA n rs R (.e id) σ = False := _root_.id rfl
@[congr] theorem DoneA_congr {n : Nat} {rs : List Rr} {R : V → List O → Prop} {x x' : X} {σ σ' : St} (hx : x = x') (hh : σ = σ') : DoneA n rs R x σ = DoneA n rs R x' σ' := by rw [hx, hh]
attribute [go_sem] DoneA_n DoneA_r DoneA_e

theorem Ev.takeE {n k : Nat} {J J' : Nat → Prop} {m m' : List Ent} {w w' : World} (hev : Ev n J m w J' m' w') (hk : n ≤ k) : Ev n J m w J' (m'.take k) w' where
  os := hev.os
  tape := hev.tape
  output := hev.output
  drawn := hev.drawn
  size := hev.size
  keep := hev.keep
  fresh := fun id e B h1 h2 => by
    rw [List.getElem?_take] at h1
    split at h1
    · exact hev.fresh id e B h1 h2
    · simp at h1
  sub := hev.sub
  jnew := hev.jnew
  ents := fun id e hn h1 => by
    obtain ⟨e', h2, h3, h4⟩ := hev.ents id e hn h1
    exact ⟨e', by rw [List.getElem?_take, if_pos (by omega)]; exact h2, h3, h4⟩

/-- A call on the caller's objects. -/
theorem call_intro (hmix : P.follows .mixedOrders = true) {f : FuncId} {c : C} {rs : List Rr} {N : Nat} (hfn : FnOk P f c rs N)
    {vs : List V} (hn : vs.length ≤ N) {h : List O} {R : V → List O → Prop} (hbody : AS P h.length c ⟨envFrom 0 vs, h⟩ (DoneA h.length rs R)) : ACall P f vs h R := by
  obtain ⟨fn, code, hf, hb, hc, hrs, rfl⟩ := hfn
  intro J m w cargs hr hp
  refine calls_of_wp hf hb ?_
  have hcl : cargs.length ≤ fn.ntmps := by rw [← hp.1]; exact hn
  have hrel : RelF fn.ntmps J m (fun t => get t (envFrom 0 vs)) h { tmps := cargs.toArray ++ Array.replicate (fn.ntmps - cargs.toArray.size) undef, defers := [] } w := by
    refine ⟨fun t => ?_, hr, rfl, by simp; omega⟩
    simp only
    rw [envFrom_get, if_pos (Nat.zero_le _), Nat.sub_zero]
    cases hv : vs[t]? with
    | none => trivial
    | some v =>
      obtain ⟨cv, h1, h2⟩ := hp.get hv
      have hlt := (List.getElem?_eq_some_iff.1 h1).1
      have : (cargs.toArray ++ Array.replicate (fn.ntmps - cargs.toArray.size) undef).getD t undef = cv := by
        rw [Array.getD_eq_getD_getElem?, Array.getElem?_append_left (by simpa using hlt)]
        simp [h1]
      rw [this]
      exact h2
  refine wp_mono (AS_ok hmix code c hc _ _ hbody J m _ w hrel) ?_
  rintro e a' w' ⟨x, σ', J', m', hx, hD, hrel', hev⟩
  have hret : (∃ vs h1, rs.mapM (readR σ') = some vs ∧ vs.all V.noT = true ∧ vs.all (V.cl h1.length) = true ∧ h.length ≤ h1.length ∧ h1.length ≤ σ'.h.length ∧ WeakH h1.length σ'.h h1 ∧ R (tupV vs) h1) →
      a'.defers = [] ∧ ∃ v, (results fn a'.tmps).run P w' = .ok v w' ∧ ∃ v0 r h' J'' m'', Ending.returned v = .returned v0 ∧ R r h' ∧ RV J'' m'' w' r v0 ∧ RS J'' h' m'' w' ∧ (∀ n, Ev n J m w J'' m'' w') ∧ Ml m m'' := by
    rintro ⟨us, h1, hus, hnt, hcls, hl1, hl2, hwk, hR⟩
    refine ⟨hrel'.defers, ?_⟩
    obtain ⟨cs, hcs, hrun⟩ := readR_ok hrel' hrs hus
    have htk := hrel'.rs.take (τ := h1) hl2 hwk
    have hevt : Ev h.length J m w J' (m'.take h1.length) w' := hev.takeE hl1
    have hml : Ml m (m'.take h1.length) := fun id e h2 => hevt.ents id e (by rw [← hr.len]; exact (List.getElem?_eq_some_iff.1 h2).1) h2
    refine ⟨_, hrun, _, tupV us, h1, J', m'.take h1.length, rfl, hR, ?_, htk, fun n => ⟨hevt.os, hevt.tape, hevt.output, hevt.drawn, hevt.size, hevt.keep, hevt.fresh, hevt.sub, hevt.jnew, fun id e _ h2 => hml id e h2⟩, hml⟩
    have hpa : Pw (RA J' (m'.take h1.length) w') us cs := ⟨hcs.1, fun i v c hi hc => by
      have hn := List.all_eq_true.1 hnt v (List.mem_of_getElem? hi)
      have hcl := List.all_eq_true.1 hcls v (List.mem_of_getElem? hi)
      exact RA_of_noT hn (clV_ok hcl (hcs.2 i v c hi hc))⟩
    have hl := hpa.1
    match us, cs, hl, hpa with
    | [], [], _, hpa => exact ⟨#[], rfl, Pw.nil⟩
    | [v], [c], _, hpa =>
      simp only [tupV]
      have : (if h : ([c] : List Value).toArray.size = 1 then ([c] : List Value).toArray[0] else Value.tuple [c].toArray) = c := by simp
      rw [this]
      exact RV_of_RA hpa.head
    | v1 :: v2 :: vr, c1 :: c2 :: cr, _, hpa =>
      simp only [tupV]
      rw [dif_neg (by simp)]
      exact ⟨_, rfl, by simpa using hpa⟩
  cases e <;> cases x <;> simp only at hx <;> (try exact hx.elim) <;> (try exact hD.elim)
  · exact hret hD
  · exact hret hD
/-- What is asked at the end, all objects kept. -/
def DoneB (rs : List Rr) (R : V → List O → Prop) (x : X) (σ : St) : Prop :=
  match x with
  | .e _ => False
  | _ => ∃ vs, rs.mapM (readR σ) = some vs ∧ vs.all V.noT = true ∧ R (tupV vs) σ.h

theorem DoneB_n {rs : List Rr} {R : V → List O → Prop} {σ : St} : DoneB rs R .n σ = ∃ vs, rs.mapM (readR σ) = some vs ∧ vs.all V.noT = true ∧ R (tupV vs) σ.h := _root_.id rfl
theorem DoneB_r {rs : List Rr} {R : V → List O → Prop} {σ : St} : DoneB rs R .r σ = ∃ vs, rs.mapM (readR σ) = some vs ∧ vs.all V.noT = true ∧ R (tupV vs) σ.h := _root_.id rfl
theorem DoneB_e {rs : List Rr} {R : V → List O → Prop} {σ : St} (id : Nat) : DoneB rs R (.e id) σ = False := _root_.id rfl
@[congr] theorem DoneB_congr {rs : List Rr} {R : V → List O → Prop} {x x' : X} {σ σ' : St} (hx : x = x') (hh : σ = σ') : DoneB rs R x σ = DoneB rs R x' σ' := by rw [hx, hh]
attribute [go_sem] DoneB_n DoneB_r DoneB_e

/-- The same, all objects kept. -/
theorem call_keep (hmix : P.follows .mixedOrders = true) {f : FuncId} {c : C} {rs : List Rr} {N : Nat} (hfn : FnOk P f c rs N)
    {vs : List V} (hn : vs.length ≤ N) {h : List O} {R : V → List O → Prop} (hbody : AS P h.length c ⟨envFrom 0 vs, h⟩ (DoneB rs R)) : ACall P f vs h R := by
  obtain ⟨fn, code, hf, hb, hc, hrs, rfl⟩ := hfn
  intro J m w cargs hr hp
  refine calls_of_wp hf hb ?_
  have hcl : cargs.length ≤ fn.ntmps := by rw [← hp.1]; exact hn
  have hrel : RelF fn.ntmps J m (fun t => get t (envFrom 0 vs)) h { tmps := cargs.toArray ++ Array.replicate (fn.ntmps - cargs.toArray.size) undef, defers := [] } w := by
    refine ⟨fun t => ?_, hr, rfl, by simp; omega⟩
    simp only
    rw [envFrom_get, if_pos (Nat.zero_le _), Nat.sub_zero]
    cases hv : vs[t]? with
    | none => trivial
    | some v =>
      obtain ⟨cv, h1, h2⟩ := hp.get hv
      have hlt := (List.getElem?_eq_some_iff.1 h1).1
      have : (cargs.toArray ++ Array.replicate (fn.ntmps - cargs.toArray.size) undef).getD t undef = cv := by
        rw [Array.getD_eq_getD_getElem?, Array.getElem?_append_left (by simpa using hlt)]
        simp [h1]
      rw [this]
      exact h2
  refine wp_mono (AS_ok hmix code c hc _ _ hbody J m _ w hrel) ?_
  rintro e a' w' ⟨x, σ', J', m', hx, hD, hrel', hev⟩
  have hret : (∃ vs, rs.mapM (readR σ') = some vs ∧ vs.all V.noT = true ∧ R (tupV vs) σ'.h) →
      a'.defers = [] ∧ ∃ v, (results fn a'.tmps).run P w' = .ok v w' ∧ ∃ v0 r h' J'' m'', Ending.returned v = .returned v0 ∧ R r h' ∧ RV J'' m'' w' r v0 ∧ RS J'' h' m'' w' ∧ (∀ n, Ev n J m w J'' m'' w') ∧ Ml m m'' := by
    rintro ⟨us, hus, hnt, hR⟩
    refine ⟨hrel'.defers, ?_⟩
    obtain ⟨cs, hcs, hrun⟩ := readR_ok hrel' hrs hus
    have hevt := hev
    have hml : Ml m m' := fun id e h2 => hevt.ents id e (by rw [← hr.len]; exact (List.getElem?_eq_some_iff.1 h2).1) h2
    refine ⟨_, hrun, _, tupV us, σ'.h, J', m', rfl, hR, ?_, hrel'.rs, fun n => ⟨hevt.os, hevt.tape, hevt.output, hevt.drawn, hevt.size, hevt.keep, hevt.fresh, hevt.sub, hevt.jnew, fun id e _ h2 => hml id e h2⟩, hml⟩
    have hpa : Pw (RA J' m' w') us cs := ⟨hcs.1, fun i v c hi hc => by
      have hn := List.all_eq_true.1 hnt v (List.mem_of_getElem? hi)
      exact RA_of_noT hn (hcs.2 i v c hi hc)⟩
    have hl := hpa.1
    match us, cs, hl, hpa with
    | [], [], _, hpa => exact ⟨#[], rfl, Pw.nil⟩
    | [v], [c], _, hpa =>
      simp only [tupV]
      have : (if h : ([c] : List Value).toArray.size = 1 then ([c] : List Value).toArray[0] else Value.tuple [c].toArray) = c := by simp
      rw [this]
      exact RV_of_RA hpa.head
    | v1 :: v2 :: vr, c1 :: c2 :: cr, _, hpa =>
      simp only [tupV]
      rw [dif_neg (by simp)]
      exact ⟨_, rfl, by simpa using hpa⟩
  cases e <;> cases x <;> simp only at hx <;> (try exact hx.elim) <;> (try exact hD.elim)
  · exact hret hD
  · exact hret hD
end
end Go.Abs
