/- Functions on meshes whose answers closed runs take as known. -/
import Derived.Test.YtlmjnmmppffhaaaGoToB
set_option linter.unusedVariables false
set_option linter.unusedSimpArgs false
namespace Go.Abs

def decV3 : List V → Option V3
  | [.i .i64 a, .i .i64 b, .i .i64 c] => some ⟨a, b, c⟩
  | _ => none
def decT3 : List V → Option T3
  | [.i .i64 a, .i .i64 b, .i .i64 c] => some ⟨a, b, c⟩
  | _ => none
def decL {α : Type} (f : List V → Option α) : List (List V) → Option (List α)
  | [] => some []
  | e :: l => match f e, decL f l with
    | some x, some r => some (x :: r)
    | _, _ => none
def decM : V → Option Mesh
  | .a [.l 3 vs, .l 3 ts] => match decL decV3 vs, decL decT3 ts with
    | some a, some b => some ⟨a, b⟩
    | _, _ => none
  | _ => none
theorem decV3_ok {e : List V} {v : V3} (h : decV3 e = some v) : e = v.cs := by
  unfold decV3 at h
  split at h
  · simp only [Option.some.injEq] at h; subst h; rfl
  · simp at h
theorem decT3_ok {e : List V} {v : T3} (h : decT3 e = some v) : e = v.cs := by
  unfold decT3 at h
  split at h
  · simp only [Option.some.injEq] at h; subst h; rfl
  · simp at h
theorem decL_ok {α : Type} {f : List V → Option α} {g : α → List V} (hf : ∀ {e v}, f e = some v → e = g v) : ∀ {l : List (List V)} {r : List α}, decL f l = some r → l = r.map g
  | [], r, h => by simp [decL] at h; subst h; rfl
  | e :: l, r, h => by
    simp only [decL] at h
    split at h
    · rename_i x q h1 h2
      simp only [Option.some.injEq] at h; subst h
      rw [List.map_cons, ← hf h1, ← decL_ok hf h2]
    · simp at h
theorem decM_ok {v : V} {m : Mesh} (h : decM v = some m) : v = m.enc := by
  unfold decM at h
  split at h
  · split at h
    · rename_i h1 h2
      simp only [Option.some.injEq] at h; subst h
      have := decL_ok decV3_ok h1
      have := decL_ok decT3_ok h2
      simp_all [Mesh.enc, Mesh.cs, vsV, tsV]
    · simp at h
  · simp at h

def borderK : List V → Option (V × List O)
  | [v] => (decM v).map fun m => (psV m.border, [])
  | _ => none
theorem borderK_ok {P : Program} {f : FuncId} {vs : List V} {r0 : V} {h0 : List O} (hc : BoundaryC P f) (he : borderK vs = some (r0, h0)) : NewC P f vs (fun r h => r = r0 ∧ h = h0) := by
  unfold borderK at he
  split at he
  · rw [Option.map_eq_some_iff] at he
    obtain ⟨m, hm, he⟩ := he
    simp only [Prod.mk.injEq] at he
    obtain ⟨rfl, rfl⟩ := he
    rw [decM_ok hm]
    exact hc m []
  · simp at he
def countedK : List V → Option (V × List O)
  | [v] => (decM v).map fun m => (.mp 1, [.dead, .mp ((tallyM m).map asV)])
  | _ => none
theorem countedK_ok {P : Program} {f : FuncId} {vs : List V} {r0 : V} {h0 : List O} (hc : CountedC P f) (he : countedK vs = some (r0, h0)) : NewC P f vs (fun r h => r = r0 ∧ h = h0) := by
  unfold countedK at he
  split at he
  · rw [Option.map_eq_some_iff] at he
    obtain ⟨m, hm, he⟩ := he
    simp only [Prod.mk.injEq] at he
    obtain ⟨rfl, rfl⟩ := he
    rw [decM_ok hm]
    exact hc m
  · simp at he
end Go.Abs

