/- Part of the abstract machine on which the proof stands: its values, code and their soundness against the model. -/
import Derived.Test.YtoppidobgkgiiaaAbsW
set_option linter.unusedVariables false
set_option linter.unusedSimpArgs false
namespace Go.Abs

/- Closed runs in parts: the result of a call that was run before is looked up. -/

def all2 {α : Type} (f : α → α → Bool) : List α → List α → Bool
  | [], [] => true
  | x :: l, y :: k => f x y && all2 f l k
  | _, _ => false

theorem all2_ok {α : Type} {f : α → α → Bool} (hf : ∀ x y, f x y = true → x = y) : ∀ {l k : List α}, all2 f l k = true → l = k
  | [], [], _ => rfl
  | x :: l, y :: k, h => by
    simp only [all2, Bool.and_eq_true] at h
    rw [hf x y h.1, all2_ok hf h.2]
  | [], _ :: _, h => by simp [all2] at h
  | _ :: _, [], h => by simp [all2] at h

def V.same : Nat → V → V → Bool
  | 0, _, _ => false
  | n + 1, u, v => match u, v with
    | .b x, .b y => x == y
    | .i k1 x, .i k2 y => decide (k1 = k2) && decide (x = y)
    | .s x, .s y => decide (x = y)
    | .nil, .nil => true
    | .l z1 e1, .l z2 e2 => Nat.beq z1 z2 && all2 (all2 (V.same n)) e1 e2
    | .a c1, .a c2 => all2 (V.same n) c1 c2
    | _, _ => false

theorem V.same_ok : ∀ (n : Nat) (u v : V), V.same n u v = true → u = v
  | 0, _, _, h => by simp [V.same] at h
  | n + 1, u, v, h => by
    have ih := V.same_ok n
    cases u <;> cases v <;> simp [V.same] at h ⊢
    · exact h
    · exact h
    · exact h
    · exact ⟨h.1, all2_ok (fun x y hxy => all2_ok ih hxy) h.2⟩
    · exact all2_ok ih h

/-- Calls that were run before. -/
def subK : List (List V × V) → List V → Option (V × List O)
  | [], _ => none
  | (vs, r) :: l, us => bif all2 (V.same 9) us vs then some (r, []) else subK l us

def SubOk (P : Program) (f : FuncId) : List (List V × V) → Prop
  | [] => True
  | (vs, r) :: l => PureC P f vs (· = r) ∧ SubOk P f l

theorem subK_ok {P : Program} {f : FuncId} : ∀ {l : List (List V × V)}, SubOk P f l → ∀ {vs : List V} {r0 : V} {h0 : List O}, subK l vs = some (r0, h0) → NewC P f vs (fun r h => r = r0 ∧ h = h0)
  | [], _, _, _, _, h => by simp [subK] at h
  | (us, r) :: l, hs, vs, r0, h0, h => by
    simp only [subK] at h
    cases hb : all2 (V.same 9) vs us
    · rw [hb] at h; exact subK_ok hs.2 h
    · rw [hb] at h
      simp only [cond_true, Option.some.injEq, Prod.mk.injEq] at h
      obtain ⟨rfl, rfl⟩ := h
      rw [all2_ok (V.same_ok 9) hb]
      exact hs.1

end Go.Abs
