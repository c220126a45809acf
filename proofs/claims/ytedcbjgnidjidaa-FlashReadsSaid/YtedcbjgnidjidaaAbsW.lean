/- Part of the abstract machine on which the proof stands: its values, code and their soundness against the model. -/
import Derived.Test.YtedcbjgnidjidaaAbsX
set_option linter.unusedVariables false
set_option linter.unusedSimpArgs false
namespace Go.Abs
open Go.RowKit

/- A machine that runs the code on values: what it finds holds of the program. -/

/-- What a call hands back: a value alone, or a value with new objects. -/
inductive Rt where
  | p (r : V)
  | n (r : V) (h : List O)

def CallOk (P : Program) (call : FuncId → List V → Option Rt) : Prop := ∀ f vs,
  (∀ r, call f vs = some (.p r) → PureC P f vs (· = r)) ∧ (∀ r h0, call f vs = some (.n r h0) → NewC P f vs (fun r' h' => r' = r ∧ h' = h0))

def callV (call : FuncId → List V → Option Rt) (h : List O) (f : FuncId) (args : List V) : Option (V × List O) :=
  bif args.all (V.cl 0) then match call f args with
    | some (.p r) => some (r, h)
    | some (.n r h0) => some (r.sh h.length, h ++ h0.map (O.sh h.length))
    | none => none
  else match frzAll h args with
    | some us => match call f us with
      | some (.p r) => bif r.scal then some (r, h) else none
      | some (.n r h0) => bif r.sc && h0.all O.sc then some (r.sh h.length, h ++ h0.map (O.sh h.length)) else none
      | none => none
    | none => none

def callD (call : FuncId → List V → Option Rt) (h : List O) (f : FuncId) (args : List V) : Option (V × List O) :=
  bif args.all (V.cl 0) then match call f args with
    | some (.p r) => some (r, h)
    | _ => none
  else none

def run1 (call : FuncId → List V → Option Rt) (drw : Bool) (i : I) (env : List (Nat × V)) (h : List O) : Option (V × List O) :=
  match i with
  | .call f args => bif drw then callD call h f (args.map (A.ev env)) else callV call h f (args.map (A.ev env))
  | .callv _ _ => none
  | i => stepI i (A.ev env) h

def runO (call : FuncId → List V → Option Rt) (drw : Bool) : List Ins → St → Option St
  | [], σ => some σ
  | x :: l, σ => match x.g with
    | none => match run1 call drw x.i σ.env σ.h with
      | some (r, h') => runO call drw l ⟨putD x.d r σ.env, h'⟩
      | none => none
    | some (t, want) => match get t σ.env with
      | .b c => bif c == want then (match run1 call drw x.i σ.env σ.h with
        | some (r, h') => runO call drw l ⟨putD x.d r σ.env, h'⟩
        | none => none) else runO call drw l ⟨putD x.d .any σ.env, σ.h⟩
      | _ => none

def O.clB (n : Nat) : O → Bool
  | .arr _ _ els => els.all fun el => el.all fun x => x.cl n
  | .mp es => es.all fun e => e.1.cl n && e.2.cl n
  | .dead => true

def wkH (h : List O) : List O := h.map fun o => bif o.clB h.length then o else .dead

def wk (σ : St) : St := ⟨σ.env.map fun p => (p.1, bif (get p.1 σ.env).cl σ.h.length then get p.1 σ.env else .any), σ.h.map fun o => bif o.clB σ.h.length then o else .dead⟩

def runC (call : FuncId → List V → Option Rt) : Nat → C → St → Option (X × St)
  | 0, _, _ => none
  | k + 1, c, σ => match c with
    | .skip => some (.n, σ)
    | .reg l => (runO call false l σ).map (.n, ·)
    | .drw l => (runO call true l σ).map (.n, ·)
    | .seq a b => match runC call k a σ with
      | some (.n, τ) => runC call k b τ
      | r => r
    | .ite c a b => match A.ev σ.env c with
      | .b t => bif t then runC call k a σ else runC call k b σ
      | _ => none
    | .blk id c => match runC call k c σ with
      | some (.e id', τ) => some (bif id' == id then .n else .e id', τ)
      | r => r
    | .loop c => match runC call k c (wk σ) with
      | some (.n, τ) => runC call k (.loop c) τ
      | r => r
    | .exit id => some (.e id, σ)
    | .ret => some (.r, σ)

def runF (tbl : FuncId → Option (C × List Rr × Nat × Bool)) : Nat → FuncId → List V → Option Rt
  | 0, _, _ => none
  | k + 1, f, vs => match tbl f with
    | none => none
    | some (c, rs, n, new) => bif Nat.ble vs.length n then match runC (runF tbl k) k c ⟨envFrom 0 vs, []⟩ with
      | some (.e _, _) => none
      | some (_, σ) => bif new then (match rs.mapM (readR σ) with
          | some us => bif us.all V.noT then some (.n (tupV us) (wkH σ.h)) else none
          | none => none) else (resV rs σ).map .p
      | none => none else none

section
variable {P : Program} {call : FuncId → List V → Option Rt}

theorem callV_ok (hc : CallOk P call) {h h' : List O} {f : FuncId} {args : List V} {r : V} (hv : callV call h f args = some (r, h')) {k : V → List O → Prop} (hk : k r h') : ACall P f args h k := by
  unfold callV at hv
  cases hcl : args.all (V.cl 0)
  · rw [hcl] at hv
    simp only [cond_false] at hv
    split at hv
    · rename_i us hus
      split at hv
      · rename_i r0 hr0
        cases hs : r0.scal
        · rw [hs] at hv; simp at hv
        rw [hs] at hv
        simp only [cond_true, Option.some.injEq, Prod.mk.injEq] at hv
        obtain ⟨rfl, rfl⟩ := hv
        exact (PureC.lend hus ((hc f us).1 _ hr0) (fun r' hr' => by subst hr'; exact hs)).mono fun r' h'' hh => by rw [hh.1, hh.2]; exact hk
      · rename_i r0 h0 hr0
        cases hs : r0.sc && h0.all O.sc
        · rw [hs] at hv; simp at hv
        rw [hs] at hv
        simp only [cond_true, Option.some.injEq, Prod.mk.injEq] at hv
        obtain ⟨rfl, rfl⟩ := hv
        simp only [Bool.and_eq_true] at hs
        exact (NewC.lend hus ((hc f us).2 _ _ hr0) (fun r' h' hh => by rw [hh.1, hh.2]; exact hs)).mono fun r' h'' hh => by
          obtain ⟨r1, h1, ⟨rfl, rfl⟩, rfl, rfl⟩ := hh; exact hk
      · simp at hv
    · simp at hv
  · rw [hcl] at hv
    simp only [cond_true] at hv
    split at hv
    · rename_i r0 hr0
      simp only [Option.some.injEq, Prod.mk.injEq] at hv
      obtain ⟨rfl, rfl⟩ := hv
      exact (((hc f args).1 _ hr0).lift hcl h).mono fun r' h'' hh => by rw [hh.1, hh.2]; exact hk
    · rename_i r0 h0 hr0
      simp only [Option.some.injEq, Prod.mk.injEq] at hv
      obtain ⟨rfl, rfl⟩ := hv
      exact (((hc f args).2 _ _ hr0).lift hcl h).mono fun r' h'' hh => by
        obtain ⟨r1, h1, ⟨rfl, rfl⟩, rfl, rfl⟩ := hh; exact hk
    · simp at hv

theorem run1_ok (hc : CallOk P call) {i : I} {env : List (Nat × V)} {h h' : List O} {r : V} (he : run1 call false i env h = some (r, h')) {k : V → List O → Prop} (hk : k r h') : St1 P i ⟨env, h⟩ k := by
  cases i
  case call f args => exact callV_ok hc he hk
  case callv => simp [run1] at he
  all_goals
    simp only [run1] at he
    simp only [St1]
    rw [he]
    exact hk

theorem run1_okd (hc : CallOk P call) {i : I} {env : List (Nat × V)} {h h' : List O} {r : V} (he : run1 call true i env h = some (r, h')) {k : V → List O → Prop} (hk : k r h') : Sd1 P i ⟨env, h⟩ k := by
  cases i
  case call f args =>
    simp only [run1, cond_true, callD] at he
    cases hcl : (args.map (A.ev env)).all (V.cl 0)
    · rw [hcl] at he; simp at he
    rw [hcl] at he
    simp only [cond_true] at he
    split at he
    · rename_i r0 hr0
      simp only [Option.some.injEq, Prod.mk.injEq] at he
      obtain ⟨rfl, rfl⟩ := he
      exact ⟨r0, ((hc f _).1 _ hr0).is hcl, hk⟩
    · simp at he
  case callv => simp [run1] at he
  all_goals
    simp only [run1] at he
    simp only [Sd1]
    rw [he]
    exact hk

theorem runO_ok (hc : CallOk P call) : ∀ (l : List Ins) (σ τ : St), runO call false l σ = some τ → ∀ κ : St → Prop, κ τ → AO P l σ κ
  | [], σ, τ, he, κ, hk => by simp only [runO, Option.some.injEq] at he; subst he; exact hk
  | ⟨d, g, i⟩ :: l, ⟨env, h⟩, τ, he, κ, hk => by
    cases g with
    | none =>
      rw [AO_cons]
      simp only [runO] at he
      split at he
      · rename_i r h' h1
        exact run1_ok hc h1 (runO_ok hc l _ τ he κ hk)
      · simp at he
    | some g =>
      obtain ⟨t, b⟩ := g
      rw [AO_guard]
      simp only [runO] at he
      split at he
      · rename_i c hg
        rw [hg]
        cases hcb : c == b
        · rw [hcb] at he
          have : c = !b := by cases c <;> cases b <;> simp_all
          subst this
          have h2 : AO P l ⟨putD d .any env, h⟩ κ := runO_ok hc l _ τ (by simpa using he) κ hk
          exact ⟨fun hh => by cases b <;> simp at hh, fun _ => h2⟩
        · rw [hcb] at he
          have : c = b := by simpa using hcb
          subst this
          simp only [cond_true] at he
          split at he
          · rename_i r h' h1
            exact ⟨fun _ => run1_ok hc h1 (runO_ok hc l _ τ he κ hk), fun hh => by cases c <;> simp at hh⟩
          · simp at he
      · simp at he

theorem runO_okd (hc : CallOk P call) : ∀ (l : List Ins) (σ τ : St), runO call true l σ = some τ → ∀ κ : St → Prop, κ τ → AD P l σ κ
  | [], σ, τ, he, κ, hk => by simp only [runO, Option.some.injEq] at he; subst he; exact hk
  | ⟨d, g, i⟩ :: l, ⟨env, h⟩, τ, he, κ, hk => by
    cases g with
    | none =>
      rw [AD_cons]
      simp only [runO] at he
      split at he
      · rename_i r h' h1
        exact run1_okd hc h1 (runO_okd hc l _ τ he κ hk)
      · simp at he
    | some g =>
      obtain ⟨t, b⟩ := g
      rw [AD_guard]
      simp only [runO] at he
      split at he
      · rename_i c hg
        rw [hg]
        cases hcb : c == b
        · rw [hcb] at he
          have : c = !b := by cases c <;> cases b <;> simp_all
          subst this
          have h2 : AD P l ⟨putD d .any env, h⟩ κ := runO_okd hc l _ τ (by simpa using he) κ hk
          exact ⟨fun hh => by cases b <;> simp at hh, fun _ => h2⟩
        · rw [hcb] at he
          have : c = b := by simpa using hcb
          subst this
          simp only [cond_true] at he
          split at he
          · rename_i r h' h1
            exact ⟨fun _ => run1_okd hc h1 (runO_okd hc l _ τ he κ hk), fun hh => by cases c <;> simp at hh⟩
          · simp at he
      · simp at he

theorem O.clB_ok {n : Nat} {o : O} (hb : o.clB n = true) : o.cl n := by
  cases o with
  | arr g sz els => simpa [O.clB, O.cl] using hb
  | mp es => simpa [O.clB, O.cl] using hb
  | dead => trivial

theorem WeakH_wk (n : Nat) : ∀ h : List O, WeakH n h (h.map fun o => bif o.clB n then o else .dead)
  | [] => trivial
  | o :: h => by
    refine ⟨?_, WeakH_wk n h⟩
    show (bif o.clB n then o else .dead) = .dead ∨ (o = (bif o.clB n then o else .dead) ∧ (bif o.clB n then o else .dead).cl n)
    cases hb : o.clB n
    · exact .inl rfl
    · exact .inr ⟨rfl, O.clB_ok hb⟩

theorem Weak_wk (σ : St) : Weak 0 σ (wk σ) := by
  refine ⟨Nat.zero_le _, by simp [wk], fun p hp => ?_, by simpa [wk] using WeakH_wk σ.h.length σ.h⟩
  simp only [wk, List.mem_map] at hp
  obtain ⟨q, _, rfl⟩ := hp
  simp only [wk, List.length_map]
  cases hc : (get q.1 σ.env).cl σ.h.length
  · exact .inl rfl
  · exact .inr ⟨rfl, by simpa using hc⟩

theorem runC_ok (hc : CallOk P call) : ∀ (k : Nat) (c : C) (σ : St) (x : X) (τ : St), runC call k c σ = some (x, τ) → ∀ κ : X → St → Prop, κ x τ → AS P 0 c σ κ
  | 0, _, _, _, _, he, _, _ => by simp [runC] at he
  | k + 1, c, σ, x, τ, he, κ, hk => by
    cases c with
    | skip => simp only [runC, Option.some.injEq, Prod.mk.injEq] at he; obtain ⟨rfl, rfl⟩ := he; exact hk
    | reg l =>
      simp only [runC, Option.map_eq_some_iff, Prod.mk.injEq] at he
      obtain ⟨τ', h1, rfl, rfl⟩ := he
      exact runO_ok hc l σ τ' h1 _ hk
    | drw l =>
      simp only [runC, Option.map_eq_some_iff, Prod.mk.injEq] at he
      obtain ⟨τ', h1, rfl, rfl⟩ := he
      exact runO_okd hc l σ τ' h1 _ hk
    | seq a b =>
      simp only [runC] at he
      rw [AS_seq]
      cases ha : runC call k a σ with
      | none => rw [ha] at he; simp at he
      | some p =>
        obtain ⟨y, τ1⟩ := p
        rw [ha] at he
        cases y with
        | n => exact runC_ok hc k a σ .n τ1 ha _ (runC_ok hc k b τ1 x τ he κ hk)
        | e id => simp only [Option.some.injEq, Prod.mk.injEq] at he; obtain ⟨rfl, rfl⟩ := he; exact runC_ok hc k a σ _ _ ha _ hk
        | r => simp only [Option.some.injEq, Prod.mk.injEq] at he; obtain ⟨rfl, rfl⟩ := he; exact runC_ok hc k a σ _ _ ha _ hk
    | ite c a b =>
      obtain ⟨env, h⟩ := σ
      simp only [runC] at he
      rw [AS_ite]
      split at he
      · rename_i t ht
        rw [ht]
        cases t
        · exact ⟨fun hh => by simp at hh, fun _ => runC_ok hc k b _ x τ he κ hk⟩
        · exact ⟨fun _ => runC_ok hc k a _ x τ he κ hk, fun hh => by simp at hh⟩
      · simp at he
    | blk id c =>
      simp only [runC] at he
      rw [AS_blk]
      cases ha : runC call k c σ with
      | none => rw [ha] at he; simp at he
      | some p =>
        obtain ⟨y, τ1⟩ := p
        rw [ha] at he
        refine runC_ok hc k c σ y τ1 ha _ ?_
        cases y with
        | n => simp only [Option.some.injEq, Prod.mk.injEq] at he; obtain ⟨rfl, rfl⟩ := he; exact hk
        | r => simp only [Option.some.injEq, Prod.mk.injEq] at he; obtain ⟨rfl, rfl⟩ := he; exact hk
        | e id' =>
          simp only [Option.some.injEq, Prod.mk.injEq] at he
          obtain ⟨h1, rfl⟩ := he
          rw [Bk_e]
          by_cases hid : id' = id
          · subst hid; simp at h1; subst h1; rw [if_pos rfl]; exact hk
          · rw [if_neg hid]
            have : (id' == id) = false := by simpa using hid
            rw [this] at h1; simp at h1; subst h1; exact hk
    | exit id => simp only [runC, Option.some.injEq, Prod.mk.injEq] at he; obtain ⟨rfl, rfl⟩ := he; exact hk
    | ret => simp only [runC, Option.some.injEq, Prod.mk.injEq] at he; obtain ⟨rfl, rfl⟩ := he; exact hk
    | loop c =>
      refine AS_loop (α := Nat × St) (fun p => p.1 ≤ k + 1 ∧ runC call p.1 (.loop c) p.2 = some (x, τ)) (fun p => wk p.2) (fun p => p.1) (k + 1, σ) ⟨Nat.le_refl _, he⟩ (Weak_wk σ) ?_
      rintro ⟨j, σ1⟩ ⟨hj, h1⟩
      simp only at hj h1
      match j, hj, h1 with
      | 0, _, h1 => simp [runC] at h1
      | j + 1, hj, h1 =>
        simp only [runC] at h1
        cases ha : runC call j c (wk σ1) with
        | none => rw [ha] at h1; simp at h1
        | some p =>
          obtain ⟨y, τ1⟩ := p
          rw [ha] at h1
          refine runC_ok hc j c (wk σ1) y τ1 ha _ ?_
          cases y with
          | n => exact ⟨(j, τ1), ⟨by simp only; omega, h1⟩, by simp, Weak_wk τ1⟩
          | e id => simp only [Option.some.injEq, Prod.mk.injEq] at h1; obtain ⟨rfl, rfl⟩ := h1; exact hk
          | r => simp only [Option.some.injEq, Prod.mk.injEq] at h1; obtain ⟨rfl, rfl⟩ := h1; exact hk
termination_by k => k

theorem runF_ok (hmix : P.follows .mixedOrders = true) {tbl : FuncId → Option (C × List Rr × Nat × Bool)} (ht : ∀ f c rs n b, tbl f = some (c, rs, n, b) → FnOk P f c rs n) : ∀ k, CallOk P (runF tbl k)
  | 0 => fun f vs => ⟨fun r h => by simp [runF] at h, fun r h0 h => by simp [runF] at h⟩
  | k + 1 => fun f vs => by
    refine ⟨fun r h => ?_, fun r h0 h => ?_⟩
    · simp only [runF] at h
      split at h
      · simp at h
      rename_i c rs n new hf
      cases hn : Nat.ble vs.length n
      · rw [hn] at h; simp at h
      rw [hn] at h
      simp only [cond_true] at h
      refine pure_of hmix (ht f c rs n _ hf) (Nat.le_of_ble_eq_true hn) ?_
      split at h
      · simp at h
      · rename_i x σ hx he
        refine runC_ok (runF_ok hmix ht k) k c _ x σ he _ ?_
        cases new
        · simp only [cond_false, Option.map_eq_some_iff, Rt.p.injEq] at h
          obtain ⟨r', h1, rfl⟩ := h
          cases x with
          | e id => exact (hx _ rfl).elim
          | n => exact ⟨r', h1, rfl⟩
          | r => exact ⟨r', h1, rfl⟩
        · simp only [cond_true] at h
          split at h
          · rename_i us hus
            cases hnt : us.all V.noT <;> rw [hnt] at h <;> simp at h
          · simp at h
      · simp at h
    · simp only [runF] at h
      split at h
      · simp at h
      rename_i c rs n new hf
      cases hn : Nat.ble vs.length n
      · rw [hn] at h; simp at h
      rw [hn] at h
      simp only [cond_true] at h
      refine new_of hmix (ht f c rs n _ hf) (Nat.le_of_ble_eq_true hn) ?_
      split at h
      · simp at h
      · rename_i x σ hx he
        refine runC_ok (runF_ok hmix ht k) k c _ x σ he _ ?_
        cases new
        · simp at h
        · simp only [cond_true] at h
          split at h
          · rename_i us hus
            cases hnt : us.all V.noT
            · rw [hnt] at h; simp at h
            rw [hnt] at h
            simp only [cond_true, Option.some.injEq, Rt.n.injEq] at h
            obtain ⟨rfl, rfl⟩ := h
            have hwk : ∃ h1 : List O, h1.length = σ.h.length ∧ True := ⟨σ.h, rfl, trivial⟩
            have key : ∃ vs h1, rs.mapM (readR σ) = some vs ∧ vs.all V.noT = true ∧ h1.length = σ.h.length ∧ WeakH σ.h.length σ.h h1 ∧ (tupV vs = tupV us ∧ h1 = wkH σ.h) :=
              ⟨us, wkH σ.h, hus, hnt, by simp [wkH], WeakH_wk _ _, rfl, rfl⟩
            cases x with
            | e id => exact (hx _ rfl).elim
            | n => exact key
            | r => exact key
          · simp at h
      · simp at h
end
end Go.Abs
