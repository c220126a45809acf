/- Part of the abstract machine on which the proof stands: its values, code and their soundness against the model. -/
import Derived.Test.YtlmjnmmppffhaaaAbsZF
set_option linter.unusedVariables false
set_option linter.unusedSimpArgs false
namespace Go.Abs

def Le0 (u v : V) : Prop := u = v ∨ (u = .nil ∧ ∃ sz, v = .l sz []) ∨ v = .any ∧ False
def LeL (R : V → V → Prop) : List V → List V → Prop
  | [], [] => True
  | u :: us, v :: vs => R u v ∧ LeL R us vs
  | _, _ => False
def Le1 (u v : V) : Prop := Le0 u v ∨ ∃ us vs, u = .a us ∧ v = .a vs ∧ LeL Le0 us vs
def Le (u v : V) : Prop := Le1 u v ∨ ∃ us vs, u = .t us ∧ v = .t vs ∧ LeL Le1 us vs

theorem Le0.refl (u : V) : Le0 u u := .inl rfl
theorem Le0.nil (sz : Nat) : Le0 .nil (.l sz []) := .inr (.inl ⟨rfl, sz, rfl⟩)
theorem LeL.refl {R : V → V → Prop} (hR : ∀ u, R u u) : ∀ us, LeL R us us
  | [] => trivial
  | u :: us => ⟨hR u, LeL.refl hR us⟩
theorem Le1.refl (u : V) : Le1 u u := .inl (.inl rfl)
theorem Le.refl (u : V) : Le u u := .inl (Le1.refl u)

theorem LeL.pw {R : V → V → Prop} {Q : V → Value → Prop} (hR : ∀ u v c, R u v → Q u c → Q v c) : ∀ {us vs : List V} {cs : List Value}, LeL R us vs → Pw Q us cs → Pw Q vs cs
  | [], [], cs, _, hp => hp
  | [], _ :: _, _, h, _ => h.elim
  | _ :: _, [], _, h, _ => h.elim
  | u :: us, v :: vs, [], _, hp => by have := hp.1; simp at this
  | u :: us, v :: vs, c :: cs, h, hp => by
    have h1 := LeL.pw hR h.2 hp.tail
    exact Pw.cons (hR u v c h.1 hp.head) h1

section
variable {J : Nat → Prop} {m : List Ent} {w : World}

theorem Le0.rd {u v : V} {c : Value} (h : Le0 u v) (hc : RC J m w u c) : RC J m w v c := by
  rcases h with rfl | ⟨rfl, sz, rfl⟩ | ⟨_, h⟩
  · exact hc
  · have h1 : RD J w .nil c := hc
    show RD J w (.l sz []) c
    cases h1 with
    | nil0 => exact .l0 sz
    | nil1 a => exact .l1 sz a 0
  · exact h.elim

theorem Le0.ra {u v : V} {c : Value} (h : Le0 u v) (hc : RA J m w u c) : RA J m w v c := by
  rcases h with rfl | ⟨rfl, sz, rfl⟩ | ⟨_, h⟩
  · exact hc
  · exact RA_of_RC (Le0.rd (J := J) (m := m) (Le0.nil sz) (by exact hc))
  · exact h.elim

theorem Le1.ra {u v : V} {c : Value} (h : Le1 u v) (hc : RA J m w u c) : RA J m w v c := by
  rcases h with h | ⟨us, vs, rfl, rfl, h⟩
  · exact h.ra hc
  · obtain ⟨arr, rfl, hp⟩ := hc
    exact ⟨arr, rfl, LeL.pw (fun _ _ _ h1 h2 => h1.rd h2) h hp⟩

theorem Le.rv {u v : V} {c : Value} (h : Le u v) (hc : RV J m w u c) : RV J m w v c := by
  rcases h with h | ⟨us, vs, rfl, rfl, h⟩
  · rcases h with (rfl | ⟨rfl, sz, rfl⟩ | ⟨_, h⟩) | ⟨us, vs, rfl, rfl, h⟩
    · exact hc
    · exact RV_of_RA (Le0.ra (Le0.nil sz) (by exact hc))
    · exact h.elim
    · exact RV_of_RA (Le1.ra (.inr ⟨us, vs, rfl, rfl, h⟩) (by exact hc))
  · obtain ⟨arr, rfl, hp⟩ := hc
    exact ⟨arr, rfl, LeL.pw (fun _ _ _ h1 h2 => h1.ra h2) h hp⟩
end

variable {P : Program}
theorem ACall_le {f : FuncId} {us vs : List V} {h : List O} {R : V → List O → Prop} (hl : LeL Le us vs) (hc : ACall P f vs h R) : ACall P f us h R :=
  fun J m w cargs hr hp => hc J m w cargs hr (LeL.pw (fun _ _ _ h1 h2 => h1.rv h2) hl hp)

theorem ACall_res {f : FuncId} {vs : List V} {h : List O} {R R' : V → List O → Prop} (hR : ∀ r h', R r h' → ∃ r', Le r r' ∧ R' r' h') (hc : ACall P f vs h R) : ACall P f vs h R' :=
  fun J m w cargs hr hp => (hc J m w cargs hr hp).mono fun e w' ⟨v, r, h', J', m', h1, h2, h3, h4, h5, h6⟩ => by
    obtain ⟨r', q1, q2⟩ := hR r h' h2
    exact ⟨v, r', h', J', m', h1, q2, q1.rv h3, h4, h5, h6⟩

theorem CallIs.le {f : FuncId} {us vs : List V} {r r' : V} (hc : CallIs P f vs r) (hl : LeL Le us vs) (hr : Le r r') : CallIs P f us r' :=
  fun h => ACall_le hl (ACall_res (fun r0 h0 hh => ⟨r', by rw [hh.1]; exact hr, rfl, hh.2⟩) (hc h))
theorem CallIs.res {f : FuncId} {us : List V} {r r' : V} (hc : CallIs P f us r) (hr : Le r r') : CallIs P f us r' := hc.le (LeL.refl Le.refl us) hr
theorem PureC.res {f : FuncId} {us : List V} {r r' : V} (hc : PureC P f us (· = r)) (hr : Le r r') : PureC P f us (· = r') :=
  ACall_res (fun r0 h0 hh => ⟨r', by rw [hh.1]; exact hr, rfl, hh.2⟩) hc

/-- The slice that appending to nil makes. -/
def apV (sz : Nat) (els : List (List V)) : V := if els = [] then .nil else .l sz els
theorem apV_le (sz : Nat) (els : List (List V)) : Le0 (apV sz els) (.l sz els) := by
  unfold apV; split
  · rename_i h; subst h; exact Le0.nil sz
  · exact Le0.refl _
end Go.Abs

set_option linter.unusedVariables false
set_option linter.unusedSimpArgs false
namespace Go.Abs

def AwakeC (P : Program) (f : FuncId) : Prop := CallIs P f [] (.b true)

theorem par_i {k : IntKind} {ps : List (Bool × List Sch)} {us : List V} (h : okPars ((false, [.i k]) :: ps) us) : ∃ n r, us = .i k n :: r ∧ (k.min ≤ n ∧ n ≤ k.max) ∧ okPars ps r := by
  simp only [okPars, okPar] at h
  obtain ⟨v, r, rfl, hv, hr⟩ := h
  simp only [okL, Sch.ok] at hv
  obtain ⟨x, r', h1, ⟨n, rfl, h2⟩, rfl⟩ := hv
  obtain rfl : v = .i k n := by simpa using h1
  exact ⟨n, r, rfl, h2, hr⟩

theorem par_s {ps : List (Bool × List Sch)} {us : List V} (h : okPars ((false, [.s]) :: ps) us) : ∃ (l : List UInt8) (r : List V), us = .s l :: r ∧ l.length ≤ 9223372036854775807 ∧ okPars ps r := by
  simp only [okPars, okPar] at h
  obtain ⟨v, r, rfl, hv, hr⟩ := h
  simp only [okL, Sch.ok] at hv
  obtain ⟨x, r', h1, ⟨n, rfl, h2⟩, rfl⟩ := hv
  obtain rfl : v = .s n := by simpa using h1
  exact ⟨n, r, rfl, h2, hr⟩

theorem par_0 {us : List V} (h : okPars [] us) : us = [] := h
end Go.Abs

set_option linter.unusedVariables false
set_option linter.unusedSimpArgs false
namespace Go.Abs

theorem app_get_r (h l : List O) (k : Nat) : (h ++ l)[h.length + k]? = l[k]? := by
  rw [List.getElem?_append_right (by omega)]; congr 1; omega
theorem app_get_0 (h l : List O) : (h ++ l)[h.length]? = l[0]? := app_get_r h l 0
theorem app_set_r (h l : List O) (k : Nat) (o : O) : (h ++ l).set (h.length + k) o = h ++ l.set k o := by
  rw [List.set_append_right _ _ (by omega)]; congr 2; omega
theorem app_set_0 (h l : List O) (o : O) : (h ++ l).set h.length o = h ++ l.set 0 o := app_set_r h l 0 o
theorem WeakH_app {n : Nat} {a b : List O} : ∀ {h : List O}, (∀ o ∈ h, o.cl n) → WeakH n a b → WeakH n (h ++ a) (h ++ b)
  | [], _, hw => hw
  | o :: h, hc, hw => ⟨.inr ⟨rfl, hc o (by simp)⟩, WeakH_app (fun o' ho => hc o' (by simp [ho])) hw⟩

theorem chk_read {js : List Nat} {lg : List (List Nat × List Nat)} {T : List Nat} (h : ∀ e ∈ lg, e.2 = []) : chk js lg (T, []) = true := by
  simp only [chk, List.all_eq_true]
  intro j _
  split
  · rename_i g hg
    have := h g (List.mem_of_getElem? hg)
    simp [okPair, this, Dis]
  · rfl

section
variable {P : Program} {h : List O} {n0 : Nat} {js : List Nat} {lg : List (List Nat × List Nat)} {al : List Nat} {K : List Nat × List Nat → V → List O → Prop}

/-- A call that looks at objects alone. -/
theorem DCall_read {f : FuncId} {vs : List V} {r : V} {T : List Nat} (hT : ∀ id ∈ T, id < n0 ∧ id < h.length) (hp : ∀ h2 : List O, (∀ id ∈ T, h2[id]? = h[id]?) → ACall P f vs h2 (fun r' h' => r' = r ∧ h' = h2)) (hc : chk js lg (T, []) = true)
    (hk : K (T, []) r h) : DCall P n0 js lg al f vs h K :=
  ⟨T, [], r, h, hc, ⟨Nat.le_refl _, fun id hid => ⟨(hT id hid).2, .inl (hT id hid).1⟩, by simp, fun _ _ _ => rfl, fun h2 _ ha => ⟨r, [],
    (hp h2 ha).mono fun r' h' hh => by rw [updW_nil, List.append_nil]; exact hh, .inl ⟨rfl, rfl, rfl⟩⟩⟩, hk⟩
end

section
variable {J : Nat → Prop} {m : List Ent} {w : World}

theorem lt_of_m {id : Nat} {e : Ent} (h : m[id]? = some e) : id < m.length := (List.getElem?_eq_some_iff.1 h).1

theorem RL_cl0 {x : V} {c : Value} (h : RL J m w x c) : x.cl0 m.length = true := by
  cases x <;> simp only [V.cl0] <;> simp only [RL] at h
  case own id g off len => obtain ⟨_, e, he, _⟩ := h; simpa using lt_of_m he
  case p id g el j => obtain ⟨_, e, he, _⟩ := h; simpa using lt_of_m he
  case mp id => obtain ⟨_, e, he, _⟩ := h; simpa using lt_of_m he

theorem RC_cl1 {x : V} {c : Value} (h : RC J m w x c) : x.cl1 m.length = true := by
  cases x
  case f fn caps =>
    obtain ⟨cs, _, hp⟩ := h
    simp only [V.cl1, List.all_eq_true]
    intro x hx
    obtain ⟨i, hi⟩ := List.getElem?_of_mem hx
    have hlt := (List.getElem?_eq_some_iff.1 hi).1
    have hl := hp.1
    exact RL_cl0 (hp.2 i x cs.toList[i] hi (List.getElem?_eq_getElem (by omega)))
  case a cs => exact (show RL J m w (.a cs) c from h).elim
  case t vs => exact (show RL J m w (.t vs) c from h).elim
  all_goals
    simp only [RC] at h
    simp only [V.cl1]
    exact RL_cl0 h

theorem RC_cl {x : V} {c : Value} (h : RC J m w x c) : x.cl m.length = true := by
  cases x
  case a cs => exact (show RL J m w (.a cs) c from h).elim
  case t vs => exact (show RL J m w (.t vs) c from h).elim
  all_goals
    simp only [V.cl]
    exact RC_cl1 h

theorem RA_cl {x : V} {c : Value} (h : RA J m w x c) : x.cl m.length = true := by
  cases x
  case a cs =>
    obtain ⟨arr, _, hp⟩ := h
    simp only [V.cl, List.all_eq_true]
    intro x hx
    obtain ⟨i, hi⟩ := List.getElem?_of_mem hx
    have hlt := (List.getElem?_eq_some_iff.1 hi).1
    have hl := hp.1
    exact RC_cl1 (hp.2 i x arr.toList[i] hi (List.getElem?_eq_getElem (by omega)))
  case t vs => exact (show RC J m w (.t vs) c from h).elim
  case any => rfl
  all_goals
    simp only [RA] at h
    exact RC_cl h

theorem RS_closed {h : List O} (hr : RS J h m w) : ∀ o ∈ h, o.cl h.length := by
  intro o ho
  obtain ⟨id, hid⟩ := List.getElem?_of_mem ho
  have hlt := (List.getElem?_eq_some_iff.1 hid).1
  have hl := hr.len
  have hO := hr.obj id m[id] o (List.getElem?_eq_getElem (by omega)) hid
  rw [← hl]
  cases o with
  | dead => trivial
  | arr g sz els =>
    obtain ⟨_, _, _, hb⟩ := hO
    intro el hel x hx
    obtain ⟨i, hi⟩ := List.getElem?_of_mem hel
    obtain ⟨j, hj⟩ := List.getElem?_of_mem hx
    split at hb
    · obtain ⟨rfl, _⟩ := hb; simp at hi
    · obtain ⟨_, _, c, ty, fz, _, _, _, hc⟩ := hb
      obtain ⟨cv, _, hcv⟩ := hc i el j x hi hj
      exact RC_cl hcv
  | mp es =>
    obtain ⟨_, B, _, ms, _, _, hc⟩ := hO
    intro e he
    obtain ⟨i, hi⟩ := List.getElem?_of_mem he
    obtain ⟨en, _, _, h1, h2⟩ := hc i e.1 e.2 hi
    exact ⟨RA_cl h1, RA_cl h2⟩
  | it mid since seen =>
    obtain ⟨_, _, _, B, _, mb, _, hm⟩ := hO
    intro i hi
    subst hi
    obtain ⟨e', he', _⟩ := hm
    exact lt_of_m he'
end

theorem cl0_mono {x : V} {n k : Nat} (hnk : n ≤ k) (h : x.cl0 n = true) : x.cl0 k = true := by
  cases x <;> simp only [V.cl0, decide_eq_true_eq] at h ⊢ <;> omega
theorem cl1_mono {x : V} {n k : Nat} (hnk : n ≤ k) (h : x.cl1 n = true) : x.cl1 k = true := by
  cases x
  case f fn caps => simp only [V.cl1, List.all_eq_true] at h ⊢; exact fun y hy => cl0_mono hnk (h y hy)
  all_goals
    simp only [V.cl1] at h ⊢
    exact cl0_mono hnk h
theorem cl_mono {x : V} {n k : Nat} (hnk : n ≤ k) (h : x.cl n = true) : x.cl k = true := by
  cases x
  case a cs => simp only [V.cl, List.all_eq_true] at h ⊢; exact fun y hy => cl1_mono hnk (h y hy)
  case t => simp [V.cl] at h
  all_goals
    simp only [V.cl] at h ⊢
    exact cl1_mono hnk h
theorem Ocl_mono {o : O} {n k : Nat} (hnk : n ≤ k) (h : o.cl n) : o.cl k := by
  cases o with
  | dead => trivial
  | arr g sz els => exact fun el hel x hx => cl_mono hnk (h el hel x hx)
  | mp es => exact fun e he => ⟨cl_mono hnk (h e he).1, cl_mono hnk (h e he).2⟩
  | it mid since seen => exact fun i hi => Nat.lt_of_lt_of_le (h i hi) hnk

/-- The caller's objects name none but its own. -/
theorem ACall_closed {P : Program} {f : FuncId} {vs : List V} {h : List O} {R : V → List O → Prop} (hc : (∀ n, h.length ≤ n → ∀ o ∈ h, o.cl n) → ACall P f vs h R) : ACall P f vs h R := by
  intro J m w cargs hr hp
  exact hc (fun n hn o ho => Ocl_mono hn (RS_closed hr o ho)) J m w cargs hr hp
theorem ACall_to {P : Program} {f : FuncId} {vs : List V} {h h0 : List O} {r0 : V} {k : V → List O → Prop} (hc : ACall P f vs h (fun r h' => r = r0 ∧ h' = h0)) (hk : k r0 h0) : ACall P f vs h k :=
  hc.mono fun r h' hh => by rw [hh.1, hh.2]; exact hk
end Go.Abs

