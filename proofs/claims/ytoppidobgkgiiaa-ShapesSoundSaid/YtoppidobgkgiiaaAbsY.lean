/- Part of the library on which the proof stands: an abstract machine, its values and its soundness against the model; or what functions of the program do to such values. -/
import Derived.Test.YtoppidobgkgiiaaAbsO
import Derived.ProofKit
import Derived.OpenShut
set_option linter.unusedVariables false
set_option linter.unusedSimpArgs false
namespace Go.Abs
open Go.RowKit

/- A machine that runs the code on values: what it finds holds of the program. -/

def O.clB (n : Nat) : O → Bool
  | .arr _ _ els => els.all fun el => el.all fun x => x.cl n
  | .mp es => es.all fun e => e.1.cl n && e.2.cl n
  | .it none _ _ => true
  | .it (some i) _ _ => decide (i < n)
  | .dead => true

def newOkB (i : I) (h h' : List O) : Bool := bif i.news then (h'.drop h.length).all (O.clB h.length) else true

section
variable (call : FuncId → List V → List O → Option (V × List O)) (callP : FuncId → List V → Option V)

def run1 (i : I) (env : List (Nat × V)) (h : List O) : Option (V × List O) :=
  match i with
  | .call f args => bif (args.map (A.ev env)).all (V.cl 0) then match callP f (args.map (A.ev env)) with
      | some r => some (r, h)
      | none => call f (args.map (A.ev env)) h
    else call f (args.map (A.ev env)) h
  | .callv c args => match A.ev env c with
    | .f f caps => call f (args.map (A.ev env) ++ caps) h
    | _ => none
  | .mnx _ => none
  | i => stepI i (A.ev env) h

def want (g : Option (Nat × Bool)) (env : List (Nat × V)) : Option Bool :=
  match g with
  | none => some true
  | some (t, w) => match get t env with
    | .b c => some (c == w)
    | .t [] => some false
    | _ => none

def runO : List Ins → St → Option St
  | [], σ => some σ
  | x :: l, σ => match want x.g σ.env with
    | some true => match run1 call callP x.i σ.env σ.h with
      | some (r, h') => bif Nat.ble σ.h.length h'.length then runO l ⟨putD x.d r σ.env, h'⟩ else none
      | none => none
    | some false => runO l ⟨putD x.d (.t []) σ.env, σ.h⟩
    | none => none

/-- A call in a region that draws its order: a value comes back, or new objects. -/
def callD (h : List O) (f : FuncId) (args : List V) : Option (Fp × V × List O) :=
  bif args.all (V.cl 0) then match callP f args with
    | some r => some (([], []), r, h)
    | none => (call f args []).map fun p => (([], []), p.1.sh h.length, h ++ p.2.map (O.sh h.length))
  else match frzAll h args with
    | some us => match callP f us with
      | some r => bif r.scal then some ((args.flatMap V.ids2, []), r, h) else none
      | none => match call f us [] with
        | some p => bif p.1.sc && p.2.all O.sc then some ((args.flatMap V.ids2, []), p.1.sh h.length, h ++ p.2.map (O.sh h.length)) else none
        | none => none
    | none => none

def runD : List Ins → List (List Nat) → List Fp → St → Option St
  | [], _, _, σ => some σ
  | x :: l, ps, lg, σ => match x.i, want x.g σ.env with
    | .call f args, some true => match callD call callP σ.h f (args.map (A.ev σ.env)) with
      | some (fp, r, h') => bif chk (ps.headD []) lg fp && Nat.ble σ.h.length h'.length then runD l ps.tail (lg ++ [fp]) ⟨putD x.d r σ.env, h'⟩ else none
      | none => none
    | .call f args, some false => runD l ps.tail (lg ++ [([], [])]) ⟨putD x.d (.t []) σ.env, σ.h⟩
    | .callv c args, some true => match A.ev σ.env c with
      | .f f caps => bif (args.map (A.ev σ.env) ++ caps).all (V.cl 0) then match callP f (args.map (A.ev σ.env) ++ caps) with
        | some r => runD l ps.tail (lg ++ [([], [])]) ⟨putD x.d r σ.env, σ.h⟩
        | none => none else none
      | _ => none
    | .callv _ _, _ => none
    | .mnx _, _ => none
    | .men _, _ => none
    | i, some true => match stepI i (A.ev σ.env) σ.h with
      | some (r, h') => bif chk (ps.headD []) lg (i.foot (A.ev σ.env)) && newOkB i σ.h h' && Nat.ble σ.h.length h'.length then runD l ps.tail (lg ++ [i.foot (A.ev σ.env)]) ⟨putD x.d r σ.env, h'⟩ else none
      | none => none
    | i, some false => bif chk (ps.headD []) lg (i.foot (A.ev σ.env)) then runD l ps.tail (lg ++ [i.foot (A.ev σ.env)]) ⟨putD x.d (.t []) σ.env, σ.h⟩ else none
    | _, none => none

def wk (σ : St) : St := ⟨σ.env.map fun p => (p.1, bif (get p.1 σ.env).cl σ.h.length then get p.1 σ.env else .any), σ.h.map fun o => bif o.clB σ.h.length then o else .dead⟩

def runC : Nat → C → St → Option (X × St)
  | 0, _, _ => none
  | k + 1, c, σ => match c with
    | .skip => some (.n, σ)
    | .reg l => (runO call callP l σ).map (.n, ·)
    | .drw l ps => (runD call callP l ps [] σ).map (.n, ·)
    | .seq a b => match runC k a σ with
      | some (.n, τ) => runC k b τ
      | r => r
    | .ite c a b => match A.ev σ.env c with
      | .b t => bif t then runC k a σ else runC k b σ
      | _ => none
    | .blk id c => match runC k c σ with
      | some (.e id', τ) => some (bif id' == id then .n else .e id', τ)
      | r => r
    | .loop c => match runC k c (wk σ) with
      | some (.n, τ) => runC k (.loop c) τ
      | r => r
    | .exit id => some (.e id, σ)
    | .ret => some (.r, σ)
end

/-- The table of functions: code, results, number of temporaries, whether the result keeps its objects. -/
abbrev Tbl := FuncId → Option (C × List Rr × Nat × Bool)

/-- Functions whose results are known by a law: the result, and the objects that it brings. -/
abbrev Known := FuncId → List V → Option (V × List O)

def knF (kn : Known) (f : FuncId) (vs : List V) (h : List O) : Option (V × List O) :=
  bif vs.all (V.cl 0) then (kn f vs).map fun p => (p.1.sh h.length, h ++ p.2.map (O.sh h.length))
  else match frzAll h vs with
    | some us => match kn f us with
      | some p => bif p.1.sc && p.2.all O.sc then some (p.1.sh h.length, h ++ p.2.map (O.sh h.length)) else none
      | none => none
    | none => none

mutual
def runF (tbl : Tbl) (kn : Known) : Nat → FuncId → List V → List O → Option (V × List O)
  | 0, _, _, _ => none
  | k + 1, f, vs, h => match knF kn f vs h with
    | some p => some p
    | none => match tbl f with
    | none => none
    | some (c, rs, n, _) => bif Nat.ble vs.length n then match runC (runF tbl kn k) (runP tbl kn k) k c ⟨envFrom 0 vs, h⟩ with
      | some (.e _, _) => none
      | some (_, σ) => match rs.mapM (readR σ) with
        | some us => bif us.all V.noT && Nat.ble h.length σ.h.length then some (tupV us, σ.h) else none
        | none => none
      | none => none else none
def runP (tbl : Tbl) (kn : Known) : Nat → FuncId → List V → Option V
  | 0, _, _ => none
  | k + 1, f, vs => match kn f vs with
    | some (r, []) => some r
    | some (_, _ :: _) => none
    | none => match tbl f with
    | none => none
    | some (c, rs, n, new) => bif Nat.ble vs.length n && !new then match runC (runF tbl kn k) (runP tbl kn k) k c ⟨envFrom 0 vs, []⟩ with
      | some (.e _, _) => none
      | some (_, σ) => resV rs σ
      | none => none else none
end

section
variable {P : Program} {call : FuncId → List V → List O → Option (V × List O)} {callP : FuncId → List V → Option V}

def CallOk (P : Program) (call : FuncId → List V → List O → Option (V × List O)) (callP : FuncId → List V → Option V) : Prop :=
  (∀ f vs h r h', call f vs h = some (r, h') → ACall P f vs h (fun r' h'' => r' = r ∧ h'' = h') ∧ callable P f = true) ∧ ∀ f vs r, callP f vs = some r → PureC P f vs (· = r) ∧ callable P f = true

theorem run1_ok (hc : CallOk P call callP) {i : I} {env : List (Nat × V)} {h h' : List O} {r : V} (he : run1 call callP i env h = some (r, h')) {k : V → List O → Prop} (hk : k r h') : St1 P i ⟨env, h⟩ k := by
  cases i
  case call f args =>
    simp only [run1] at he
    have hgen : call f (args.map (A.ev env)) h = some (r, h') → St1 P (.call f args) ⟨env, h⟩ k := fun he => (hc.1 _ _ _ _ _ he).1.mono fun r' h'' hh => by rw [hh.1, hh.2]; exact hk
    cases hcl : (args.map (A.ev env)).all (V.cl 0)
    · rw [hcl] at he; exact hgen he
    · rw [hcl] at he
      simp only [cond_true] at he
      split at he
      · rename_i r0 hr0
        simp only [Option.some.injEq, Prod.mk.injEq] at he
        obtain ⟨rfl, rfl⟩ := he
        exact ((hc.2 f _ _ hr0).1.lift hcl h).mono fun r' h'' hh => by rw [hh.1, hh.2]; exact hk
      · exact hgen he
  case callv c args =>
    simp only [run1] at he
    split at he
    · rename_i f caps hcap
      simp only [St1, hcap]
      exact ⟨(hc.1 _ _ _ _ _ he).2, (hc.1 _ _ _ _ _ he).1.mono fun r' h'' hh => by rw [hh.1, hh.2]; exact hk⟩
    · simp at he
  case mnx => simp [run1] at he
  case isn neg x =>
    simp only [run1] at he
    simp only [St1]
    have hf : (A.ev env x).empt = false := by
      have h7 := he
      simp only [stepI] at h7
      generalize A.ev env x = Y at h7
      cases Y <;> first | rfl | (simp at h7; done) | skip
      rename_i sz els
      cases els with
      | nil => simp at h7
      | cons => rfl
    rw [hf, he]
    exact hk
  all_goals
    simp only [run1] at he
    simp only [St1]
    rw [he]
    exact hk

theorem runO_ok (hc : CallOk P call callP) : ∀ (l : List Ins) (σ τ : St), runO call callP l σ = some τ → σ.h.length ≤ τ.h.length ∧ ∀ κ : St → Prop, κ τ → AO P l σ κ
  | [], σ, τ, he => by simp only [runO, Option.some.injEq] at he; subst he; exact ⟨Nat.le_refl _, fun κ hk => hk⟩
  | ⟨d, g, i⟩ :: l, ⟨env, h⟩, τ, he => by
    simp only [runO] at he
    cases g with
    | none =>
      simp only [want] at he
      split at he
      · rename_i r h' h1
        cases hb : Nat.ble h.length h'.length
        · rw [hb] at he; simp at he
        rw [hb] at he
        obtain ⟨g1, g2⟩ := runO_ok hc l _ τ he
        exact ⟨Nat.le_trans (Nat.le_of_ble_eq_true hb) g1, fun κ hk => by rw [AO_cons]; exact run1_ok hc h1 (g2 κ hk)⟩
      · simp at he
    | some g =>
      obtain ⟨t, b⟩ := g
      cases hwt : want (some (t, b)) env with
      | none => simp [runO, hwt] at he
      | some c =>
        have hgd : ∀ {F G : Prop}, (c = true → F) → (c = false → G) → Guard (get t env) b F G := by
          intro F G hF hG
          simp only [want] at hwt
          split at hwt
          · rename_i c' hg
            rw [hg]
            simp only [Option.some.injEq] at hwt
            subst hwt
            exact ⟨fun hh => hF (by simp [hh]), fun hh => hG (by subst hh; cases b <;> rfl)⟩
          · rename_i hg
            rw [hg]
            exact hG (Option.some.inj hwt).symm
          · simp at hwt
        cases c with
        | false =>
          simp only [runO, hwt] at he
          obtain ⟨g1, g2⟩ := runO_ok hc l _ τ he
          refine ⟨g1, fun κ hk => ?_⟩
          rw [AO_guard]
          exact hgd (fun hh => by simp at hh) (fun _ => g2 κ hk)
        | true =>
          simp only [runO, hwt] at he
          split at he
          · rename_i r h' h1
            cases hb : Nat.ble h.length h'.length
            · rw [hb] at he; simp at he
            rw [hb] at he
            obtain ⟨g1, g2⟩ := runO_ok hc l _ τ he
            refine ⟨Nat.le_trans (Nat.le_of_ble_eq_true hb) g1, fun κ hk => ?_⟩
            rw [AO_guard]
            exact hgd (fun _ => run1_ok hc h1 (g2 κ hk)) (fun hh => by simp at hh)
          · simp at he

theorem O.clB_ok {n : Nat} {o : O} (hb : o.clB n = true) : o.cl n := by
  cases o with
  | arr g sz els => simpa [O.clB, O.cl] using hb
  | mp es => simpa [O.clB, O.cl] using hb
  | it mid since seen =>
    cases mid with
    | none => simp [O.cl]
    | some i => simpa [O.clB, O.cl] using hb
  | dead => trivial

theorem newOkB_ok {i : I} {h h' : List O} (hb : newOkB i h h' = true) : NewOk i h h' := by
  unfold newOkB at hb
  unfold NewOk
  cases hn : i.news
  · trivial
  · rw [hn] at hb
    simp only [cond_true, List.all_eq_true] at hb
    exact fun o ho => O.clB_ok (hb o ho)

theorem callD_ok (hc : CallOk P call callP) {n0 : Nat} {js : List Nat} {lg : List Fp} {h h' : List O} {f : FuncId} {args : List V} {fp : Fp} {r : V} (he : callD call callP h f args = some (fp, r, h')) (hck : chk js lg fp = true) {K : Fp → V → List O → Prop} (hk : K fp r h') :
    DCall P n0 js lg (args.flatMap V.ids2) f args h K := by
  unfold callD at he
  cases hcl : args.all (V.cl 0)
  · rw [hcl] at he
    simp only [cond_false] at he
    split at he
    · rename_i us hus
      split at he
      · rename_i r0 hr0
        cases hs : r0.scal
        · rw [hs] at he; simp at he
        rw [hs] at he
        simp only [cond_true, Option.some.injEq, Prod.mk.injEq] at he
        obtain ⟨rfl, rfl, rfl⟩ := he
        exact DCall_lend hus (hc.2 f us _ hr0).1 hs (fun _ h => h) hck hk
      · split at he
        · rename_i p hp
          cases hs : p.1.sc && p.2.all O.sc
          · rw [hs] at he; simp at he
          rw [hs] at he
          simp only [cond_true, Option.some.injEq, Prod.mk.injEq] at he
          obtain ⟨rfl, rfl, rfl⟩ := he
          simp only [Bool.and_eq_true] at hs
          exact DCall_new_lend hus (hc.1 f us [] p.1 p.2 hp).1 hs (fun _ h => h) hck hk
        · simp at he
    · simp at he
  · rw [hcl] at he
    simp only [cond_true] at he
    split at he
    · rename_i r0 hr0
      simp only [Option.some.injEq, Prod.mk.injEq] at he
      obtain ⟨rfl, rfl, rfl⟩ := he
      exact DCall_is ((hc.2 f args _ hr0).1.is hcl) hk
    · simp only [Option.map_eq_some_iff, Prod.mk.injEq] at he
      obtain ⟨⟨r0, h0⟩, hr0, rfl, rfl, rfl⟩ := he
      exact DCall_new (hc.1 f args [] r0 h0 hr0).1 hcl hk

theorem want_of {g : Option (Nat × Bool)} {env : List (Nat × V)} {b : Bool} (hb : want g env = some b) {F G : Prop} (hF : b = true → F) (hG : b = false → G) :
    (g = none ∧ F) ∨ ∃ t w, g = some (t, w) ∧ Guard (get t env) w F G := by
  cases g with
  | none => simp only [want, Option.some.injEq] at hb; exact .inl ⟨rfl, hF hb.symm⟩
  | some g =>
    obtain ⟨t, w⟩ := g
    refine .inr ⟨t, w, rfl, ?_⟩
    simp only [want] at hb
    split at hb
    · rename_i c hg
      rw [hg]
      simp only [Option.some.injEq] at hb
      subst hb
      exact ⟨fun hh => hF (by simp [hh]), fun hh => hG (by subst hh; cases w <;> rfl)⟩
    · rename_i hg
      rw [hg]
      exact hG (Option.some.inj hb).symm
    · simp at hb

theorem GdP_of {g : Option (Nat × Bool)} {env : List (Nat × V)} {h : List O} {b : Bool} (hb : want g env = some b) {F : (V → List O → Prop) → Prop} {k : V → List O → Prop} (hF : b = true → F k) (hG : b = false → k (.t []) h) : GdP g ⟨env, h⟩ F h k := by
  rcases want_of hb hF hG with ⟨rfl, h1⟩ | ⟨t, w, rfl, h1⟩ <;> exact h1

theorem GdC_of {g : Option (Nat × Bool)} {env : List (Nat × V)} {h : List O} {b : Bool} (hb : want g env = some b) {F : (List Nat × List Nat → V → List O → Prop) → Prop} {k : List Nat × List Nat → V → List O → Prop} (hF : b = true → F k) (hG : b = false → k ([], []) (.t []) h) : GdC g ⟨env, h⟩ F h k := by
  rcases want_of hb hF hG with ⟨rfl, h1⟩ | ⟨t, w, rfl, h1⟩ <;> exact h1

theorem runD_ok (hc : CallOk P call callP) {n0 : Nat} : ∀ (l : List Ins) (ps : List (List Nat)) (lg : List Fp) (σ τ : St), runD call callP l ps lg σ = some τ → σ.h.length ≤ τ.h.length ∧ ∀ κ : St → Prop, κ τ → AD P n0 l ps lg σ κ
  | [], ps, lg, σ, τ, he => by simp only [runD, Option.some.injEq] at he; subst he; exact ⟨Nat.le_refl _, fun κ hk => hk⟩
  | ⟨d, g, i⟩ :: l, ps, lg, ⟨env, h⟩, τ, he => by
    have hplain : i.isSp = false → ∀ b, want g env = some b →
        (b = true → ∃ r h', stepI i (A.ev env) h = some (r, h') ∧ newOkB i h h' = true ∧ h.length ≤ h'.length ∧ runD call callP l ps.tail (lg ++ [i.foot (A.ev env)]) ⟨putD d r env, h'⟩ = some τ) →
        (b = false → runD call callP l ps.tail (lg ++ [i.foot (A.ev env)]) ⟨putD d (.t []) env, h⟩ = some τ) → chk (ps.headD []) lg (i.foot (A.ev env)) = true →
        h.length ≤ τ.h.length ∧ ∀ κ : St → Prop, κ τ → AD P n0 (⟨d, g, i⟩ :: l) ps lg ⟨env, h⟩ κ := by
      intro hsp b hb ht hf hck
      have hAD : ∀ κ, (chk (ps.headD []) lg (i.foot (A.ev env)) = true ∧ GdP g ⟨env, h⟩ (Opt (stepI i (A.ev env) h)) h (fun r h' => NewOk i h h' ∧ AD P n0 l ps.tail (lg ++ [i.foot (A.ev env)]) ⟨putD d r env, h'⟩ κ)) → AD P n0 (⟨d, g, i⟩ :: l) ps lg ⟨env, h⟩ κ := by
        intro κ hh
        cases i <;> first | exact hh | (simp [I.isSp] at hsp)
      cases b with
      | true =>
        obtain ⟨r, h', h1, h2, h3, h4⟩ := ht rfl
        obtain ⟨g1, g2⟩ := runD_ok hc l _ _ _ τ h4
        refine ⟨Nat.le_trans h3 g1, fun κ hk => hAD κ ⟨hck, GdP_of hb (fun _ => ?_) (fun hh => by simp at hh)⟩⟩
        rw [h1]
        exact ⟨newOkB_ok h2, g2 κ hk⟩
      | false =>
        obtain ⟨g1, g2⟩ := runD_ok hc l _ _ _ τ (hf rfl)
        refine ⟨g1, fun κ hk => hAD κ ⟨hck, GdP_of hb (fun hh => by simp at hh) (fun _ => ⟨?_, g2 κ hk⟩)⟩⟩
        unfold NewOk
        split
        · simp
        · trivial
    by_cases hsp : i.isSp = false
    · cases hwt : want g env with
      | none => cases i <;> first | (simp [runD, hwt] at he; done) | (simp [I.isSp] at hsp; done)
      | some b =>
        refine hplain hsp b hwt (fun hb => ?_) (fun hb => ?_) ?_
        · subst hb
          have h1 : (match stepI i (A.ev env) h with
            | some (r, h') => bif chk (ps.headD []) lg (i.foot (A.ev env)) && newOkB i h h' && Nat.ble h.length h'.length then runD call callP l ps.tail (lg ++ [i.foot (A.ev env)]) ⟨putD d r env, h'⟩ else none
            | none => none) = some τ := by
            cases i <;> first | (simp only [runD, hwt] at he; exact he) | (simp [I.isSp] at hsp; done)
          split at h1
          · rename_i r h' hst
            cases hb : chk (ps.headD []) lg (i.foot (A.ev env)) && newOkB i h h' && Nat.ble h.length h'.length
            · rw [hb] at h1; simp at h1
            rw [hb] at h1
            simp only [Bool.and_eq_true] at hb
            exact ⟨r, h', hst, hb.1.2, Nat.le_of_ble_eq_true hb.2, h1⟩
          · simp at h1
        · subst hb
          have h1 : (bif chk (ps.headD []) lg (i.foot (A.ev env)) then runD call callP l ps.tail (lg ++ [i.foot (A.ev env)]) ⟨putD d (.t []) env, h⟩ else none) = some τ := by
            cases i <;> first | (simp only [runD, hwt] at he; exact he) | (simp [I.isSp] at hsp; done)
          cases hb : chk (ps.headD []) lg (i.foot (A.ev env))
          · rw [hb] at h1; simp at h1
          · rw [hb] at h1; exact h1
        · cases hb : chk (ps.headD []) lg (i.foot (A.ev env)) with
          | true => rfl
          | false =>
            exfalso
            cases b
            · have h1 : (bif chk (ps.headD []) lg (i.foot (A.ev env)) then runD call callP l ps.tail (lg ++ [i.foot (A.ev env)]) ⟨putD d (.t []) env, h⟩ else none) = some τ := by
                cases i <;> first | (simp only [runD, hwt] at he; exact he) | (simp [I.isSp] at hsp; done)
              rw [hb] at h1; simp at h1
            · have h1 : (match stepI i (A.ev env) h with
                | some (r, h') => bif chk (ps.headD []) lg (i.foot (A.ev env)) && newOkB i h h' && Nat.ble h.length h'.length then runD call callP l ps.tail (lg ++ [i.foot (A.ev env)]) ⟨putD d r env, h'⟩ else none
                | none => none) = some τ := by
                cases i <;> first | (simp only [runD, hwt] at he; exact he) | (simp [I.isSp] at hsp; done)
              rw [hb] at h1
              split at h1 <;> simp at h1
    · cases i <;> first | (exact absurd rfl hsp) | skip
      case call f args =>
        cases hwt : want g env with
        | none => simp [runD, hwt] at he
        | some b =>
          have hAD : ∀ κ, GdC g ⟨env, h⟩ (DCall P n0 (ps.headD []) lg ((args.map (A.ev env)).flatMap V.ids2) f (args.map (A.ev env)) h) h (fun fp r h' => AD P n0 l ps.tail (lg ++ [fp]) ⟨putD d r env, h'⟩ κ) → AD P n0 (⟨d, g, .call f args⟩ :: l) ps lg ⟨env, h⟩ κ := fun κ hh => hh
          cases b with
          | true =>
            simp only [runD, hwt] at he
            split at he
            · rename_i fp r h' hcd
              cases hck : chk (ps.headD []) lg fp && Nat.ble h.length h'.length
              · rw [hck] at he; simp at he
              rw [hck] at he
              simp only [Bool.and_eq_true] at hck
              obtain ⟨g1, g2⟩ := runD_ok hc l _ _ _ τ he
              exact ⟨Nat.le_trans (Nat.le_of_ble_eq_true hck.2) g1, fun κ hk => hAD κ (GdC_of hwt (fun _ => callD_ok hc hcd hck.1 (g2 κ hk)) (fun hh => by simp at hh))⟩
            · simp at he
          | false =>
            simp only [runD, hwt] at he
            obtain ⟨g1, g2⟩ := runD_ok hc l _ _ _ τ he
            exact ⟨g1, fun κ hk => hAD κ (GdC_of hwt (fun hh => by simp at hh) (fun _ => g2 κ hk))⟩
      case callv c args =>
        cases hwt : want g env with
        | none => simp [runD, hwt] at he
        | some b =>
          have hAD : ∀ κ, GdC g ⟨env, h⟩ (DCallv P n0 (ps.headD []) lg (A.ev env c) (args.map (A.ev env)) h) h (fun fp r h' => AD P n0 l ps.tail (lg ++ [fp]) ⟨putD d r env, h'⟩ κ) → AD P n0 (⟨d, g, .callv c args⟩ :: l) ps lg ⟨env, h⟩ κ := fun κ hh => hh
          cases b with
          | false => simp [runD, hwt] at he
          | true =>
            simp only [runD, hwt] at he
            split at he
            · rename_i f caps hcv
              cases hcl : (args.map (A.ev env) ++ caps).all (V.cl 0)
              · rw [hcl] at he; simp at he
              · rw [hcl] at he
                simp only [cond_true] at he
                split at he
                · rename_i r0 hr0
                  obtain ⟨g1, g2⟩ := runD_ok hc l _ _ _ τ he
                  refine ⟨g1, fun κ hk => hAD κ (GdC_of hwt (fun _ => ?_) (fun hh => by simp at hh))⟩
                  rw [hcv]
                  exact ⟨(hc.2 f _ _ hr0).2, DCall_is ((hc.2 f _ _ hr0).1.is hcl) (g2 κ hk)⟩
                · simp at he
            · simp at he
      all_goals simp [runD] at he

theorem WeakH_wk (n : Nat) : ∀ h : List O, WeakH n h (h.map fun o => bif o.clB n then o else .dead)
  | [] => trivial
  | o :: h => by
    refine ⟨?_, WeakH_wk n h⟩
    show (bif o.clB n then o else .dead) = .dead ∨ (o = (bif o.clB n then o else .dead) ∧ (bif o.clB n then o else .dead).cl n)
    cases hb : o.clB n
    · exact .inl rfl
    · exact .inr ⟨rfl, O.clB_ok hb⟩

theorem wk_len (σ : St) : (wk σ).h.length = σ.h.length := by simp [wk]

theorem Weak_wk {n : Nat} (σ : St) (hn : n ≤ σ.h.length) : Weak n σ (wk σ) := by
  refine ⟨by rw [wk_len]; exact hn, by simp [wk], fun p hp => ?_, by simpa [wk] using WeakH_wk σ.h.length σ.h⟩
  simp only [wk, List.mem_map] at hp
  obtain ⟨q, _, rfl⟩ := hp
  simp only [wk, List.length_map]
  cases hc : (get q.1 σ.env).cl σ.h.length
  · exact .inl rfl
  · exact .inr ⟨rfl, by simpa using hc⟩

theorem runC_ok (hc : CallOk P call callP) {n : Nat} : ∀ (k : Nat) (c : C) (σ : St) (x : X) (τ : St), runC call callP k c σ = some (x, τ) → n ≤ σ.h.length → σ.h.length ≤ τ.h.length ∧ ∀ κ : X → St → Prop, κ x τ → AS P n c σ κ
  | 0, _, _, _, _, he, _ => by simp [runC] at he
  | k + 1, c, σ, x, τ, he, hn => by
    cases c with
    | skip => simp only [runC, Option.some.injEq, Prod.mk.injEq] at he; obtain ⟨rfl, rfl⟩ := he; exact ⟨Nat.le_refl _, fun κ hk => hk⟩
    | reg l =>
      simp only [runC, Option.map_eq_some_iff, Prod.mk.injEq] at he
      obtain ⟨τ', h1, rfl, rfl⟩ := he
      obtain ⟨g1, g2⟩ := runO_ok hc l σ τ' h1
      exact ⟨g1, fun κ hk => g2 _ hk⟩
    | drw l ps =>
      simp only [runC, Option.map_eq_some_iff, Prod.mk.injEq] at he
      obtain ⟨τ', h1, rfl, rfl⟩ := he
      obtain ⟨g1, g2⟩ := runD_ok (n0 := σ.h.length) hc l ps [] σ τ' h1
      exact ⟨g1, fun κ hk => g2 _ hk⟩
    | seq a b =>
      simp only [runC] at he
      cases ha : runC call callP k a σ with
      | none => rw [ha] at he; simp at he
      | some p =>
        obtain ⟨y, τ1⟩ := p
        rw [ha] at he
        obtain ⟨g1, g2⟩ := runC_ok hc k a σ y τ1 ha hn
        cases y with
        | n =>
          obtain ⟨g3, g4⟩ := runC_ok (n := n) hc k b τ1 x τ he (Nat.le_trans hn g1)
          exact ⟨Nat.le_trans g1 g3, fun κ hk => by rw [AS_seq]; exact g2 _ (g4 κ hk)⟩
        | e id => simp only [Option.some.injEq, Prod.mk.injEq] at he; obtain ⟨rfl, rfl⟩ := he; exact ⟨g1, fun κ hk => by rw [AS_seq]; exact g2 _ hk⟩
        | r => simp only [Option.some.injEq, Prod.mk.injEq] at he; obtain ⟨rfl, rfl⟩ := he; exact ⟨g1, fun κ hk => by rw [AS_seq]; exact g2 _ hk⟩
    | ite c a b =>
      obtain ⟨env, h⟩ := σ
      simp only [runC] at he
      split at he
      · rename_i t ht
        cases t
        · obtain ⟨g1, g2⟩ := runC_ok (n := n) hc k b _ x τ he hn
          exact ⟨g1, fun κ hk => by rw [AS_ite, ht]; exact ⟨fun hh => by simp at hh, fun _ => g2 κ hk⟩⟩
        · obtain ⟨g1, g2⟩ := runC_ok (n := n) hc k a _ x τ he hn
          exact ⟨g1, fun κ hk => by rw [AS_ite, ht]; exact ⟨fun _ => g2 κ hk, fun hh => by simp at hh⟩⟩
      · simp at he
    | blk id c =>
      simp only [runC] at he
      cases ha : runC call callP k c σ with
      | none => rw [ha] at he; simp at he
      | some p =>
        obtain ⟨y, τ1⟩ := p
        rw [ha] at he
        obtain ⟨g1, g2⟩ := runC_ok (n := n) hc k c σ y τ1 ha hn
        have key : ∀ κ : X → St → Prop, κ x τ → Bk id κ y τ1 ∧ τ1 = τ := by
          intro κ hk
          cases y with
          | n => simp only [Option.some.injEq, Prod.mk.injEq] at he; obtain ⟨rfl, rfl⟩ := he; exact ⟨hk, rfl⟩
          | r => simp only [Option.some.injEq, Prod.mk.injEq] at he; obtain ⟨rfl, rfl⟩ := he; exact ⟨hk, rfl⟩
          | e id' =>
            simp only [Option.some.injEq, Prod.mk.injEq] at he
            obtain ⟨h1, rfl⟩ := he
            refine ⟨?_, rfl⟩
            rw [Bk_e]
            by_cases hid : id' = id
            · subst hid; simp at h1; subst h1; rw [if_pos rfl]; exact hk
            · rw [if_neg hid]
              have : (id' == id) = false := by simpa using hid
              rw [this] at h1; simp at h1; subst h1; exact hk
        obtain ⟨_, rfl⟩ := key (fun _ _ => True) trivial
        exact ⟨g1, fun κ hk => by rw [AS_blk]; exact g2 _ (key κ hk).1⟩
    | exit id => simp only [runC, Option.some.injEq, Prod.mk.injEq] at he; obtain ⟨rfl, rfl⟩ := he; exact ⟨Nat.le_refl _, fun κ hk => hk⟩
    | ret => simp only [runC, Option.some.injEq, Prod.mk.injEq] at he; obtain ⟨rfl, rfl⟩ := he; exact ⟨Nat.le_refl _, fun κ hk => hk⟩
    | loop c =>
      have hlen : ∀ (j : Nat), j ≤ k + 1 → ∀ σ1, runC call callP j (.loop c) σ1 = some (x, τ) → n ≤ σ1.h.length → σ1.h.length ≤ τ.h.length := by
        intro j
        induction j with
        | zero => intro _ σ1 h1; simp [runC] at h1
        | succ j ih =>
          intro hj σ1 h1 hn1
          simp only [runC] at h1
          cases ha : runC call callP j c (wk σ1) with
          | none => rw [ha] at h1; simp at h1
          | some p =>
            obtain ⟨y, τ1⟩ := p
            rw [ha] at h1
            have g1 := (runC_ok (n := n) hc j c (wk σ1) y τ1 ha (by rw [wk_len]; exact hn1)).1
            rw [wk_len] at g1
            cases y with
            | n => exact Nat.le_trans g1 (ih (by omega) τ1 h1 (by omega))
            | e id => simp only [Option.some.injEq, Prod.mk.injEq] at h1; obtain ⟨_, rfl⟩ := h1; exact g1
            | r => simp only [Option.some.injEq, Prod.mk.injEq] at h1; obtain ⟨_, rfl⟩ := h1; exact g1
      refine ⟨hlen (k + 1) (Nat.le_refl _) σ he hn, fun κ hk => ?_⟩
      refine AS_loop (α := Nat × St) (fun p => p.1 ≤ k + 1 ∧ runC call callP p.1 (.loop c) p.2 = some (x, τ) ∧ n ≤ p.2.h.length) (fun p => wk p.2) (fun p => p.1) (k + 1, σ) ⟨Nat.le_refl _, he, hn⟩ (Weak_wk σ hn) ?_
      rintro ⟨j, σ1⟩ ⟨hj, h1, hn1⟩
      simp only at hj h1 hn1
      match j, hj, h1 with
      | 0, _, h1 => simp [runC] at h1
      | j + 1, hj, h1 =>
        simp only [runC] at h1
        cases ha : runC call callP j c (wk σ1) with
        | none => rw [ha] at h1; simp at h1
        | some p =>
          obtain ⟨y, τ1⟩ := p
          rw [ha] at h1
          obtain ⟨g1, g2⟩ := runC_ok (n := n) hc j c (wk σ1) y τ1 ha (by rw [wk_len]; exact hn1)
          rw [wk_len] at g1
          refine g2 _ ?_
          cases y with
          | n => exact ⟨(j, τ1), ⟨by simp only; omega, h1, by simp only; omega⟩, by simp, Weak_wk τ1 (by omega)⟩
          | e id => simp only [Option.some.injEq, Prod.mk.injEq] at h1; obtain ⟨rfl, rfl⟩ := h1; exact hk
          | r => simp only [Option.some.injEq, Prod.mk.injEq] at h1; obtain ⟨rfl, rfl⟩ := h1; exact hk
termination_by k => k

def KnOk (P : Program) (kn : Known) : Prop := ∀ f vs r0 h0, kn f vs = some (r0, h0) → NewC P f vs (fun r h => r = r0 ∧ h = h0) ∧ callable P f = true

theorem knF_ok {kn : Known} (hk : KnOk P kn) {f : FuncId} {vs : List V} {h h' : List O} {r : V} (he : knF kn f vs h = some (r, h')) : ACall P f vs h (fun r' h'' => r' = r ∧ h'' = h') ∧ callable P f = true := by
  unfold knF at he
  cases hcl : vs.all (V.cl 0)
  · rw [hcl] at he
    simp only [cond_false] at he
    split at he
    · rename_i us hus
      split at he
      · rename_i p hp
        cases hs : p.1.sc && p.2.all O.sc
        · rw [hs] at he; simp at he
        rw [hs] at he
        simp only [cond_true, Option.some.injEq, Prod.mk.injEq] at he
        obtain ⟨rfl, rfl⟩ := he
        simp only [Bool.and_eq_true] at hs
        refine ⟨ACall_new_lend hus (hk f us p.1 p.2 hp).1 hs ⟨rfl, rfl⟩, (hk f us p.1 p.2 hp).2⟩
      · simp at he
    · simp at he
  · rw [hcl] at he
    simp only [cond_true, Option.map_eq_some_iff, Prod.mk.injEq] at he
    obtain ⟨p, hp, rfl, rfl⟩ := he
    exact ⟨ACall_new (hk f vs p.1 p.2 hp).1 hcl ⟨rfl, rfl⟩, (hk f vs p.1 p.2 hp).2⟩

theorem runF_ok (hmix : P.follows .mixedOrders = true) {tbl : Tbl} {kn : Known} (ht : ∀ f c rs n b, tbl f = some (c, rs, n, b) → FnOk P f c rs n ∧ callable P f = true) (hkn : KnOk P kn) : ∀ k, CallOk P (runF tbl kn k) (runP tbl kn k)
  | 0 => ⟨fun f vs h r h' he => by simp [runF] at he, fun f vs r he => by simp [runP] at he⟩
  | k + 1 => by
    have ih := runF_ok hmix ht hkn k
    refine ⟨fun f vs h r h' he => ?_, fun f vs r he => ?_⟩
    · simp only [runF] at he
      split at he
      · rename_i p hp
        obtain rfl := Option.some.inj he
        exact knF_ok hkn hp
      split at he
      · simp at he
      rename_i c rs n new hf
      obtain ⟨hfn, hcl⟩ := ht f c rs n new hf
      refine ⟨?_, hcl⟩
      cases hn : Nat.ble vs.length n
      · rw [hn] at he; simp at he
      rw [hn] at he
      simp only [cond_true] at he
      split at he
      · simp at he
      · rename_i x σ hx hr
        split at he
        · rename_i us hus
          cases hb : us.all V.noT && Nat.ble h.length σ.h.length
          · rw [hb] at he; simp at he
          rw [hb] at he
          simp only [cond_true, Option.some.injEq, Prod.mk.injEq] at he
          obtain ⟨rfl, rfl⟩ := he
          simp only [Bool.and_eq_true] at hb
          refine call_keep hmix hfn (Nat.le_of_ble_eq_true hn) ((runC_ok (n := h.length) ih k c _ x σ hr (Nat.le_refl _)).2 _ ?_)
          cases x with
          | e id => exact (hx _ rfl).elim
          | n => exact ⟨us, hus, hb.1, rfl, rfl⟩
          | r => exact ⟨us, hus, hb.1, rfl, rfl⟩
        · simp at he
      · simp at he
    · simp only [runP] at he
      split at he
      · rename_i r0 hr0
        obtain rfl := Option.some.inj he
        exact hkn _ _ _ _ hr0
      · simp at he
      split at he
      · simp at he
      rename_i c rs n new hf
      obtain ⟨hfn, hcl⟩ := ht f c rs n new hf
      cases hn : Nat.ble vs.length n
      · rw [hn] at he; simp at he
      rw [hn] at he
      cases new
      case true => simp at he
      simp only [Bool.not_false, Bool.and_true, cond_true] at he
      split at he
      · simp at he
      · rename_i x σ hx hr
        refine ⟨pure_of hmix hfn (Nat.le_of_ble_eq_true hn) ((runC_ok (n := 0) ih k c _ x σ hr (Nat.le_refl _)).2 _ ?_), hcl⟩
        cases x with
        | e id => exact (hx _ rfl).elim
        | n => exact ⟨r, he, rfl⟩
        | r => exact ⟨r, he, rfl⟩
      · simp at he
end
end Go.Abs
set_option linter.unusedVariables false
set_option linter.unusedSimpArgs false
namespace Go.Abs
open Go.RowKit

/- WHAT A STATEMENT's READING OF AN ARGUMENT SAYS OF ITS VALUES. -/

/-- The shape of one cell of data. -/
inductive Sch where
  | b
  | i (k : IntKind)
  | s
  | sl (el : List Sch)

mutual
/-- A value of that shape. -/
def Sch.ok : Sch → V → Prop
  | .b, v => ∃ x, v = .b x
  | .i k, v => ∃ n, v = .i k n ∧ k.min ≤ n ∧ n ≤ k.max
  | .s, v => ∃ l, v = .s l ∧ l.length ≤ 9223372036854775807
  | .sl el, v => ∃ els, v = .l el.length els ∧ els.length ≤ 9223372036854775807 ∧ ∀ e ∈ els, okL el e
def okL : List Sch → List V → Prop
  | [], vs => vs = []
  | c :: cs, vs => ∃ v r, vs = v :: r ∧ c.ok v ∧ okL cs r
end

theorem okL_len : ∀ {ss : List Sch} {vs : List V}, okL ss vs → vs.length = ss.length
  | [], vs, h => by rw [okL] at h; subst h; rfl
  | c :: cs, vs, h => by rw [okL] at h; obtain ⟨v, r, rfl, _, h2⟩ := h; simp [okL_len h2]

theorem okL_one {c : Sch} {v : V} (h : c.ok v) : okL [c] [v] := by
  rw [okL]; exact ⟨v, [], rfl, h, by rw [okL]⟩

theorem okL_append : ∀ {ss ts : List Sch} {vs us : List V}, okL ss vs → okL ts us → okL (ss ++ ts) (vs ++ us)
  | [], ts, vs, us, h, k => by rw [okL] at h; subst h; exact k
  | c :: cs, ts, vs, us, h, k => by
    rw [okL] at h
    obtain ⟨v, r, rfl, h1, h2⟩ := h
    rw [List.cons_append, okL]
    exact ⟨v, r ++ us, rfl, h1, okL_append h2 k⟩

def schFs (P : Program) (g : TypeId → Option (List Sch)) : List Field → Nat → Option (List Sch)
  | [], _ => some []
  | f :: fs, acc => match g f.type with
    | some ss => if f.offset = acc ∧ P.cellsOf f.type = ss.length then (schFs P g fs (acc + ss.length)).map (ss ++ ·) else none
    | none => none

def schOf (P : Program) : Nat → TypeId → Option (List Sch)
  | 0, _ => none
  | d + 1, T => match P.underlying T with
    | some .bool => some [.b]
    | some (.int k) => some [.i k]
    | some .string => some [.s]
    | some (.slice e) => match schOf P d e with
      | some el => if P.cellsOf e = el.length ∧ 0 < el.length then some [.sl el] else none
      | none => none
    | some (.struct fs) => match schFs P (schOf P d) fs.toList 0 with
      | some ss => if P.cellsOf T = ss.length then some ss else none
      | none => none
    | some (.array n e) => match schOf P d e with
      | some el => if P.cellsOf e = el.length ∧ P.cellsOf T = n * el.length then some (List.replicate n el).flatten else none
      | none => none
    | _ => none

section
variable {P : Program} {w : World} {H : Type} {enc : TypeId × Value → H} {sp : Nat → Bool} {held : Bool}

def ReadAt (P : Program) (w : World) {H : Type} (enc : TypeId × Value → H) (sp : Nat → Bool) (held : Bool) (d : Nat) : Prop :=
  ∀ T ss, schOf P d T = some ss → ∀ fuel cs r, DataW.trod enc P w 0 sp held fuel T cs = some r → ∃ vs, Pw (RD (fun k => k < w.heap.size) w) vs cs ∧ okL ss vs

theorem schFs_ok {d : Nat} (ih : ReadAt P w enc sp held d) {fuel : Nat} {cs : List Value} : ∀ (fs : List Field) (acc : Nat) (ss : List Sch), schFs P (schOf P d) fs acc = some ss →
    (∀ f ∈ fs, ∃ y, DataW.trod enc P w 0 sp held fuel f.type ((cs.drop f.offset).take (P.cellsOf f.type)) = some y) → ∃ vs, Pw (RD (fun k => k < w.heap.size) w) vs ((cs.drop acc).take ss.length) ∧ okL ss vs
  | [], acc, ss, h, _ => by
    simp only [schFs, Option.some.injEq] at h
    subst h
    exact ⟨[], by simpa using Pw.nil, by rw [okL]⟩
  | f :: fs, acc, ss, h, hy => by
    simp only [schFs] at h
    split at h
    · rename_i s1 hs1
      split at h
      · rename_i hc
        obtain ⟨rfl, hc⟩ := hc
        simp only [Option.map_eq_some_iff] at h
        obtain ⟨s2, hs2, rfl⟩ := h
        obtain ⟨y, hy1⟩ := hy f (by simp)
        rw [hc] at hy1
        obtain ⟨v1, hp1, ho1⟩ := ih f.type s1 hs1 fuel _ y hy1
        obtain ⟨v2, hp2, ho2⟩ := schFs_ok ih fs _ s2 hs2 (fun g hg => hy g (by simp [hg]))
        refine ⟨v1 ++ v2, ?_, okL_append ho1 ho2⟩
        have : (cs.drop f.offset).take (s1 ++ s2).length = (cs.drop f.offset).take s1.length ++ (cs.drop (f.offset + s1.length)).take s2.length := by
          rw [List.length_append, List.take_add, List.drop_drop]
        rw [this]
        exact hp1.append hp2
      · simp at h
    · simp at h

theorem arr_ok {d : Nat} (ih : ReadAt P w enc sp held d) {fuel : Nat} {cs : List Value} {e : TypeId} {el : List Sch} (he : schOf P d e = some el) : ∀ k : Nat,
    (∀ i, i < k → ∃ y, DataW.trod enc P w 0 sp held fuel e ((cs.drop (i * el.length)).take el.length) = some y) → ∃ vs, Pw (RD (fun k => k < w.heap.size) w) vs (cs.take (k * el.length)) ∧ okL (List.replicate k el).flatten vs
  | 0, _ => ⟨[], by simpa using Pw.nil, by simp [okL]⟩
  | k + 1, hy => by
    obtain ⟨v1, hp1, ho1⟩ := arr_ok ih he k (fun i hi => hy i (by omega))
    obtain ⟨y, hy1⟩ := hy k (by omega)
    obtain ⟨v2, hp2, ho2⟩ := ih e el he fuel _ y hy1
    refine ⟨v1 ++ v2, ?_, ?_⟩
    · rw [Nat.add_mul, Nat.one_mul, List.take_add]
      exact hp1.append hp2
    · rw [List.replicate_succ', List.flatten_append]
      simpa using okL_append ho1 ho2

theorem pick_list {α β : Type} {R : Nat → α → Prop} : ∀ n : Nat, (∀ i, i < n → ∃ x, R i x) → ∃ xs : List α, xs.length = n ∧ ∀ i x, xs[i]? = some x → R i x
  | 0, _ => ⟨[], rfl, by simp⟩
  | n + 1, h => by
    obtain ⟨xs, h1, h2⟩ := pick_list (β := β) n (fun i hi => h i (by omega))
    obtain ⟨x, hx⟩ := h n (by omega)
    refine ⟨xs ++ [x], by simp [h1], fun i y hy => ?_⟩
    by_cases hi : i < xs.length
    · rw [List.getElem?_append_left hi] at hy; exact h2 i y hy
    · rw [List.getElem?_append_right (by omega)] at hy
      have : i - xs.length = 0 := by
        rcases Nat.eq_zero_or_pos (i - xs.length) with h0 | h0
        · exact h0
        · rw [show i - xs.length = (i - xs.length - 1) + 1 by omega] at hy; simp at hy
      rw [this] at hy
      simp at hy; subst hy
      have : i = n := by omega
      subst this; exact hx

theorem readAt_all : ∀ d, ReadAt P w enc sp held d
  | 0 => fun T ss h => by simp [schOf] at h
  | d + 1 => by
    intro T ss hs fuel cs r hr
    have ih : ReadAt P w enc sp held d := readAt_all d
    simp only [schOf] at hs
    split at hs <;> rename_i hu
    · obtain rfl := Option.some.inj hs
      obtain ⟨x, rfl, _⟩ := DataW.trod_bool hu hr
      exact ⟨[.b x], Pw.cons (.b x) Pw.nil, okL_one (by rw [Sch.ok]; exact ⟨x, rfl⟩)⟩
    · rename_i k
      obtain rfl := Option.some.inj hs
      obtain ⟨n, rfl, _, hw⟩ := DataW.trod_int hu hr
      simp only [Lit.wf, Bool.and_eq_true, decide_eq_true_eq] at hw
      exact ⟨[.i k n], Pw.cons (.i k n) Pw.nil, okL_one (by rw [Sch.ok]; exact ⟨n, rfl, hw.1, hw.2⟩)⟩
    · obtain rfl := Option.some.inj hs
      obtain ⟨x, rfl, _, hl⟩ := DataW.trod_string hu hr
      refine ⟨[.s x.data.toList], Pw.cons ?_ Pw.nil, ?_⟩
      · have := RD.s (J := fun k => k < w.heap.size) (w := w) x.data.toList
        simpa using this
      · simp only [okL, Sch.ok]
        refine ⟨_, _, rfl, ⟨_, rfl, ?_⟩, rfl⟩
        have : x.data.toList.length = x.size := Array.length_toList
        rw [this]; exact hl
    · rename_i e
      split at hs
      · rename_i el hel
        split at hs
        · rename_i hc
          obtain ⟨hc, hpos⟩ := hc
          obtain rfl := Option.some.inj hs
          rcases DataW.trod_slice hu hr with ⟨rfl, _⟩ | ⟨a, len, cap, elems, rest, n, _, rfl, _, _, hlc, hcm, hel2, hget, _, _⟩
          · exact ⟨[.l el.length []], Pw.cons (.l0 _) Pw.nil, by simp [okL, Sch.ok]⟩
          · rw [hc] at hget
            have hex : ∀ i, i < len → ∃ (u : List V), ∃ csi, w.cells? 0 (a.add (i * el.length)) el.length = some csi ∧ Pw (RD (fun k => k < w.heap.size) w) u csi ∧ okL el u := by
              intro i hi
              have h1 := hget i hi
              obtain ⟨y, hy⟩ : ∃ y, elems[i]? = some y := ⟨_, List.getElem?_eq_getElem (by omega)⟩
              rw [hy] at h1
              simp only [Option.bind_eq_some_iff] at h1
              obtain ⟨csi, hcsi, hyi⟩ := h1
              obtain ⟨u, hu1, hu2⟩ := ih e el hel n csi y hyi
              exact ⟨u, csi, hcsi, hu1, hu2⟩
            obtain ⟨els, hlen, hels⟩ := pick_list (β := Unit) len hex
            refine ⟨[.l el.length els], Pw.cons ?_ Pw.nil, ?_⟩
            · by_cases h0 : len = 0
              · have : els = [] := List.eq_nil_of_length_eq_zero (by omega)
                subst this
                subst h0
                exact .l1 _ _ _
              · have hblk : a.block < w.heap.size := by
                  obtain ⟨u, csi, hcsi, _⟩ := hex 0 (by omega)
                  have := World.cells?_block hcsi hpos
                  rwa [Addr.add_block] at this
                have key : ∀ i u j, els[i]? = some u → j < el.length → ∃ c, w.cell? (a.add (i * el.length + j)) = some c ∧ ∀ v, u[j]? = some v → RD (fun k => k < w.heap.size) w v c := by
                  intro i u j hi hj
                  obtain ⟨csi, hcsi, hp, _⟩ := hels i u hi
                  obtain ⟨_, hl1, hg⟩ := World.cells?_some hcsi
                  have h2 := hg j hj
                  rw [Addr.add_add] at h2
                  obtain ⟨c, hcj⟩ : ∃ c, csi[j]? = some c := ⟨_, List.getElem?_eq_getElem (by omega)⟩
                  exact ⟨c, by rw [h2, hcj], fun v hv => hp.2 j v c hv hcj⟩
                have := RD.l (J := fun k => k < w.heap.size) (w := w) el.length els a cap (fun i j => (w.cell? (a.add (i * el.length + j))).getD undef) hblk (by omega)
                  (fun i u hi => by obtain ⟨_, _, _, ho⟩ := hels i u hi; exact okL_len ho)
                  (fun i j hi hj => by
                    obtain ⟨u, hu⟩ : ∃ u, els[i]? = some u := ⟨_, List.getElem?_eq_getElem hi⟩
                    obtain ⟨c, hc1, _⟩ := key i u j hu hj
                    rw [hc1]; rfl)
                  (fun i u j v hi hv => by
                    have hj : j < el.length := by
                      obtain ⟨_, _, _, ho⟩ := hels i u hi
                      rw [← okL_len ho]
                      exact (List.getElem?_eq_some_iff.1 hv).1
                    obtain ⟨c, hc1, hc2⟩ := key i u j hi hj
                    rw [hc1]; exact hc2 v hv)
                rw [hlen] at this
                exact this
            · simp only [okL, Sch.ok]
              refine ⟨_, _, rfl, ⟨els, rfl, ?_, fun u hu => ?_⟩, rfl⟩
              · have : cap ≤ 9223372036854775807 := by simpa [maxLen] using hcm
                omega
              · obtain ⟨i, hi, rfl⟩ := List.getElem_of_mem hu
                obtain ⟨_, _, _, ho⟩ := hels i _ (List.getElem?_eq_getElem hi)
                exact ho
        · simp at hs
      · simp at hs
    · rename_i fs
      split at hs
      · rename_i s1 hs1
        split at hs
        · rename_i hc
          obtain rfl := Option.some.inj hs
          obtain ⟨xs, n, _, _, hl, hxl, hget⟩ := DataW.trod_struct hu hr
          obtain ⟨vs, hp, ho⟩ := schFs_ok ih (fuel := n) (cs := cs) fs.toList 0 s1 hs1 (fun f hf => by
            obtain ⟨i, hi, rfl⟩ := List.getElem_of_mem hf
            have hi' : i < fs.size := by simpa using hi
            have h1 := hget i fs[i] (Array.getElem?_eq_getElem hi')
            refine ⟨xs[i]'(by omega), ?_⟩
            rw [Array.getElem_toList, h1]
            exact List.getElem?_eq_getElem _)
          rw [List.drop_zero, ← hc, ← hl, List.take_length] at hp
          exact ⟨vs, hp, ho⟩
        · simp at hs
      · simp at hs
    · rename_i n e
      split at hs
      · rename_i el hel
        split at hs
        · rename_i hc
          obtain ⟨hc1, hc2⟩ := hc
          obtain rfl := Option.some.inj hs
          obtain ⟨xs, m, _, _, hl, hxl, hget⟩ := DataW.trod_array hu hr
          obtain ⟨vs, hp, ho⟩ := arr_ok ih (fuel := m) (cs := cs) hel n (fun i hi => by
            have h1 := hget i hi
            rw [hc1] at h1
            refine ⟨xs[i]'(by omega), ?_⟩
            rw [h1]
            exact List.getElem?_eq_getElem _)
          rw [← hc2, ← hl, List.take_length] at hp
          exact ⟨vs, hp, ho⟩
        · simp at hs
      · simp at hs
    · simp at hs
end
end Go.Abs
