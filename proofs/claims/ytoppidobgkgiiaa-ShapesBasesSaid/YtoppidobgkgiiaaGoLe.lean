/- What is known of a value may be weakened: a nil slice is an empty one. -/
import Derived.Test.YtoppidobgkgiiaaAbsZ
set_option linter.unusedVariables false
set_option linter.unusedSimpArgs false
namespace Go.Abs

def Le0 (u v : V) : Prop := u = v ∨ (u = .nil ∧ ∃ sz, v = .l sz []) ∨ v = .any ∧ False
def LeL (R : V → V → Prop) : List V → List V → Prop
  | [], [] => True
  | u :: us, v :: vs => R u v ∧ LeL R us vs
  | _, _ => False
def Le1 (u v : V) : Prop := Le0 u v ∨ ∃ us vs, u = .a us ∧ v = .a vs ∧ LeL Le0 us vs
def Le (u v : V) : Prop := Le1 u v ∨ ∃ us vs, u = .t us ∧ v = .t vs ∧ LeL Le1 us vs

theorem Le0.refl (u : V) : Le0 u u := .inl rfl
theorem Le0.nil (sz : Nat) : Le0 .nil (.l sz []) := .inr (.inl ⟨rfl, sz, rfl⟩)
theorem LeL.refl {R : V → V → Prop} (hR : ∀ u, R u u) : ∀ us, LeL R us us
  | [] => trivial
  | u :: us => ⟨hR u, LeL.refl hR us⟩
theorem Le1.refl (u : V) : Le1 u u := .inl (.inl rfl)
theorem Le.refl (u : V) : Le u u := .inl (Le1.refl u)

theorem LeL.pw {R : V → V → Prop} {Q : V → Value → Prop} (hR : ∀ u v c, R u v → Q u c → Q v c) : ∀ {us vs : List V} {cs : List Value}, LeL R us vs → Pw Q us cs → Pw Q vs cs
  | [], [], cs, _, hp => hp
  | [], _ :: _, _, h, _ => h.elim
  | _ :: _, [], _, h, _ => h.elim
  | u :: us, v :: vs, [], _, hp => by have := hp.1; simp at this
  | u :: us, v :: vs, c :: cs, h, hp => by
    have h1 := LeL.pw hR h.2 hp.tail
    exact Pw.cons (hR u v c h.1 hp.head) h1

section
variable {J : Nat → Prop} {m : List Ent} {w : World}

theorem Le0.rd {u v : V} {c : Value} (h : Le0 u v) (hc : RC J m w u c) : RC J m w v c := by
  rcases h with rfl | ⟨rfl, sz, rfl⟩ | ⟨_, h⟩
  · exact hc
  · have h1 : RD J w .nil c := hc
    show RD J w (.l sz []) c
    cases h1 with
    | nil0 => exact .l0 sz
    | nil1 a => exact .l1 sz a 0
  · exact h.elim

theorem Le0.ra {u v : V} {c : Value} (h : Le0 u v) (hc : RA J m w u c) : RA J m w v c := by
  rcases h with rfl | ⟨rfl, sz, rfl⟩ | ⟨_, h⟩
  · exact hc
  · exact RA_of_RC (Le0.rd (J := J) (m := m) (Le0.nil sz) (by exact hc))
  · exact h.elim

theorem Le1.ra {u v : V} {c : Value} (h : Le1 u v) (hc : RA J m w u c) : RA J m w v c := by
  rcases h with h | ⟨us, vs, rfl, rfl, h⟩
  · exact h.ra hc
  · obtain ⟨arr, rfl, hp⟩ := hc
    exact ⟨arr, rfl, LeL.pw (fun _ _ _ h1 h2 => h1.rd h2) h hp⟩

theorem Le.rv {u v : V} {c : Value} (h : Le u v) (hc : RV J m w u c) : RV J m w v c := by
  rcases h with h | ⟨us, vs, rfl, rfl, h⟩
  · rcases h with (rfl | ⟨rfl, sz, rfl⟩ | ⟨_, h⟩) | ⟨us, vs, rfl, rfl, h⟩
    · exact hc
    · exact RV_of_RA (Le0.ra (Le0.nil sz) (by exact hc))
    · exact h.elim
    · exact RV_of_RA (Le1.ra (.inr ⟨us, vs, rfl, rfl, h⟩) (by exact hc))
  · obtain ⟨arr, rfl, hp⟩ := hc
    exact ⟨arr, rfl, LeL.pw (fun _ _ _ h1 h2 => h1.ra h2) h hp⟩
end

variable {P : Program}
theorem ACall_le {f : FuncId} {us vs : List V} {h : List O} {R : V → List O → Prop} (hl : LeL Le us vs) (hc : ACall P f vs h R) : ACall P f us h R :=
  fun J m w cargs hr hp => hc J m w cargs hr (LeL.pw (fun _ _ _ h1 h2 => h1.rv h2) hl hp)

theorem ACall_res {f : FuncId} {vs : List V} {h : List O} {R R' : V → List O → Prop} (hR : ∀ r h', R r h' → ∃ r', Le r r' ∧ R' r' h') (hc : ACall P f vs h R) : ACall P f vs h R' :=
  fun J m w cargs hr hp => (hc J m w cargs hr hp).mono fun e w' ⟨v, r, h', J', m', h1, h2, h3, h4, h5, h6⟩ => by
    obtain ⟨r', q1, q2⟩ := hR r h' h2
    exact ⟨v, r', h', J', m', h1, q2, q1.rv h3, h4, h5, h6⟩

theorem CallIs.le {f : FuncId} {us vs : List V} {r r' : V} (hc : CallIs P f vs r) (hl : LeL Le us vs) (hr : Le r r') : CallIs P f us r' :=
  fun h => ACall_le hl (ACall_res (fun r0 h0 hh => ⟨r', by rw [hh.1]; exact hr, rfl, hh.2⟩) (hc h))
theorem CallIs.res {f : FuncId} {us : List V} {r r' : V} (hc : CallIs P f us r) (hr : Le r r') : CallIs P f us r' := hc.le (LeL.refl Le.refl us) hr
theorem PureC.res {f : FuncId} {us : List V} {r r' : V} (hc : PureC P f us (· = r)) (hr : Le r r') : PureC P f us (· = r') :=
  ACall_res (fun r0 h0 hh => ⟨r', by rw [hh.1]; exact hr, rfl, hh.2⟩) hc

/-- The slice that appending to nil makes. -/
def apV (sz : Nat) (els : List (List V)) : V := if els = [] then .nil else .l sz els
theorem apV_le (sz : Nat) (els : List (List V)) : Le0 (apV sz els) (.l sz els) := by
  unfold apV; split
  · rename_i h; subst h; exact Le0.nil sz
  · exact Le0.refl _
end Go.Abs
