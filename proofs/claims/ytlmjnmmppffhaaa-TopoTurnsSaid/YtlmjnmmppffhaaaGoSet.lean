/- Part of the abstract machine on which the proof stands: its values, code and their soundness against the model. -/
import Derived.Test.YtlmjnmmppffhaaaGoShpA
import Derived.Test.YtlmjnmmppffhaaaGoMeshC
set_option linter.unusedVariables false
set_option linter.unusedSimpArgs false
namespace Go.Abs

theorem entsOf_mp (h : List O) (id : Nat) : entsOf h (.mp id) = match h[id]? with | some (.mp es) => some es | _ => none := _root_.id rfl
attribute [go_sem] entsOf_mp V.isT

def asE (p : P2 × Int) : V × V := (p.1.enc, .i .i64 p.2)
def fnd (e : P2) : List (P2 × Int) → Option (Nat × Int)
  | [] => none
  | (k, n) :: r => if e = k then some (0, n) else (fnd e r).map fun p => (p.1 + 1, p.2)

theorem veq2 (a b : P2) : veqL [1, 1] a.enc.cells b.enc.cells = some (decide (a = b)) := by
  cases a; cases b
  simp [veqL, P2.enc, P2.cs, V.cells, sceq, P2.mk.injEq]
  rw [Bool.eq_iff_iff]; simp

theorem findE_as (e : P2) : ∀ L : List (P2 × Int), findE [1, 1] e.enc (L.map asE) = some ((fnd e L).map fun p => (p.1, .i .i64 p.2))
  | [] => rfl
  | (k, n) :: r => by
    simp only [List.map_cons, asE, findE, fnd]
    rw [if_pos (by rfl), veq2]
    by_cases h : e = k
    · simp [h]
    · simp only [h, decide_false, if_false]
      have := findE_as e r
      rw [this]
      cases fnd e r <;> rfl

theorem fnd_none {e : P2} : ∀ {L : List (P2 × Int)}, fnd e L = none ↔ ∀ p ∈ L, p.1 ≠ e
  | [] => by simp [fnd]
  | (k, n) :: r => by
    simp only [fnd]
    by_cases h : e = k
    · simp [h]
    · have h' : ¬ k = e := fun hh => h hh.symm
      rw [if_neg h, Option.map_eq_none_iff, fnd_none (L := r)]
      simp [h']
theorem fnd_app {e : P2} {n : Int} : ∀ {L : List (P2 × Int)}, fnd e L = none → fnd e (L ++ [(e, n)]) = some (L.length, n)
  | [], _ => by simp [fnd]
  | (k, m) :: r, h => by
    simp only [fnd] at h
    by_cases hk : e = k
    · simp [hk] at h
    · simp only [hk, if_false, Option.map_eq_none_iff] at h
      simp [fnd, hk, fnd_app h]
theorem fnd_set {e : P2} {i : Nat} {n n' : Int} : ∀ {L : List (P2 × Int)}, fnd e L = some (i, n) → L[i]? = some (e, n) ∧ fnd e (L.set i (e, n')) = some (i, n')
  | [], h => by simp [fnd] at h
  | (k, m) :: r, h => by
    simp only [fnd] at h
    by_cases hk : e = k
    · simp [hk] at h; obtain ⟨rfl, rfl⟩ := h; simp [fnd, hk]
    · simp only [hk, if_false, Option.map_eq_some_iff, Prod.mk.injEq] at h
      obtain ⟨⟨j, n1⟩, hj, rfl, rfl⟩ := h
      have := fnd_set (n' := n') hj
      simp [fnd, hk, this.1, this.2]
end Go.Abs

set_option linter.unusedVariables false
set_option linter.unusedSimpArgs false
namespace Go.Abs

section
variable {K β : Type} [DecidableEq K]
def fndG (e : K) : List (K × β) → Option (Nat × β)
  | [] => none
  | (k, n) :: r => if e = k then some (0, n) else (fndG e r).map fun p => (p.1 + 1, p.2)
/-- Keys by their cells: they are compared cell by cell. -/
structure KeyOk (ls : List Nat) (en : K → V) : Prop where
  shape : ∀ a, kshape ls (en a) = true
  len : ∀ a, (en a).cells.length = ls.length
  eq : ∀ a b, veqL ls (en a).cells (en b).cells = some (decide (a = b))

def asG (en : K → V) (ev : β → V) (p : K × β) : V × V := (en p.1, ev p.2)

theorem findE_G {ls : List Nat} {en : K → V} (O : KeyOk ls en) (ev : β → V) (e : K) : ∀ L : List (K × β), findE ls (en e) (L.map (asG en ev)) = some ((fndG e L).map fun p => (p.1, ev p.2))
  | [] => by simp [findE, O.shape, O.len, fndG]
  | (k, n) :: r => by
    simp only [List.map_cons, asG, findE, fndG, O.shape, O.eq, Bool.and_self, if_true]
    by_cases h : e = k
    · simp [h]
    · simp only [h, decide_false, if_false]
      have := findE_G O ev e r
      rw [this]
      cases fndG e r <;> rfl

theorem fndG_none {e : K} : ∀ {L : List (K × β)}, fndG e L = none ↔ e ∉ L.map Prod.fst
  | [] => by simp [fndG]
  | (k, n) :: r => by
    simp only [fndG]
    by_cases h : e = k
    · simp [h]
    · rw [if_neg h, Option.map_eq_none_iff, fndG_none (L := r)]
      simp [h]
theorem fndG_some {e : K} : ∀ {L : List (K × β)} {i : Nat} {n : β}, fndG e L = some (i, n) → L[i]? = some (e, n)
  | [], i, n, h => by simp [fndG] at h
  | (k, m) :: r, i, n, h => by
    simp only [fndG] at h
    by_cases hk : e = k
    · simp [hk] at h; obtain ⟨rfl, rfl⟩ := h; simp [hk]
    · simp only [hk, if_false, Option.map_eq_some_iff, Prod.mk.injEq] at h
      obtain ⟨⟨j, n1⟩, hj, rfl, rfl⟩ := h
      simpa using fndG_some hj
theorem fndG_of_get : ∀ {L : List (K × β)} {i : Nat} {e : K} {n : β}, (L.map Prod.fst).Nodup → L[i]? = some (e, n) → fndG e L = some (i, n)
  | [], i, e, n, _, h => by simp at h
  | (k, m) :: r, 0, e, n, _, h => by simp at h; obtain ⟨rfl, rfl⟩ := h; simp [fndG]
  | (k, m) :: r, i + 1, e, n, hn, h => by
    simp only [List.map_cons, List.nodup_cons] at hn
    simp only [List.getElem?_cons_succ] at h
    have hk : ¬ e = k := by
      rintro rfl
      exact hn.1 (List.mem_map.2 ⟨(e, n), List.mem_of_getElem? h, rfl⟩)
    simp [fndG, hk, fndG_of_get hn.2 h]
theorem fndG_app {e e' : K} {n : β} : ∀ {L : List (K × β)}, fndG e L = none → fndG e' (L ++ [(e, n)]) = if e' = e then some (L.length, n) else fndG e' L
  | [], _ => by simp [fndG]
  | (k, m) :: r, h => by
    simp only [fndG] at h
    by_cases hk : e = k
    · simp [hk] at h
    · simp only [hk, if_false, Option.map_eq_none_iff] at h
      by_cases he : e' = e
      · subst he; simp [fndG, hk, fndG_app h]
      · simp only [List.cons_append, fndG, fndG_app h, he, if_false]
theorem fndG_set {e e' : K} {n' : β} : ∀ {L : List (K × β)} {i : Nat} {n : β}, fndG e L = some (i, n) → fndG e' (L.set i (e, n')) = if e' = e then some (i, n') else fndG e' L
  | [], i, n, h => by simp [fndG] at h
  | (k, m) :: r, i, n, h => by
    simp only [fndG] at h
    by_cases hk : e = k
    · simp [hk] at h; obtain ⟨rfl, rfl⟩ := h
      subst hk
      by_cases he : e' = e <;> simp [fndG, he]
    · simp only [hk, if_false, Option.map_eq_some_iff, Prod.mk.injEq] at h
      obtain ⟨⟨j, n1⟩, hj, rfl, rfl⟩ := h
      have := fndG_set (e' := e') (n' := n') hj
      by_cases he : e' = e
      · subst he; simp [fndG, hk, this]
      · simp only [List.set_cons_succ, fndG, this, he, if_false]
/-- The map with an entry put in. -/
def putG (e : K) (n : β) (L : List (K × β)) : List (K × β) := match fndG e L with | some (i, _) => L.set i (e, n) | none => L ++ [(e, n)]
theorem fndG_put (e e' : K) (n : β) (L : List (K × β)) : (fndG e' (putG e n L)).map Prod.snd = if e' = e then some n else (fndG e' L).map Prod.snd := by
  unfold putG
  cases h : fndG e L with
  | none => simp only [fndG_app h]; split <;> simp
  | some p => obtain ⟨i, m⟩ := p; simp only [fndG_set h]; split <;> simp
theorem putG_keys (e : K) (n : β) (L : List (K × β)) : (putG e n L).map Prod.fst = if e ∈ L.map Prod.fst then L.map Prod.fst else L.map Prod.fst ++ [e] := by
  unfold putG
  cases h : fndG e L with
  | none => rw [if_neg (fndG_none.1 h)]; simp
  | some p =>
    obtain ⟨i, m⟩ := p
    have h1 := fndG_some h
    rw [if_pos (List.mem_map.2 ⟨(e, m), List.mem_of_getElem? h1, rfl⟩)]
    simp only [List.map_set]
    apply List.ext_getElem?
    intro j
    by_cases hj : i = j
    · subst hj
      have := (List.getElem?_eq_some_iff.1 h1).1
      rw [List.getElem?_set_self (by simpa using this)]
      simp [h1]
    · rw [List.getElem?_set_ne hj]
end

theorem key_P2 : KeyOk [1, 1] P2.enc := ⟨fun _ => rfl, fun _ => rfl, veq2⟩
theorem key_V3 : KeyOk [1, 1, 1] V3.enc := ⟨fun _ => rfl, fun _ => rfl, fun a b => by
  cases a; cases b
  simp [veqL, V3.enc, V3.cs, V.cells, sceq, V3.mk.injEq]
  rw [Bool.eq_iff_iff]; simp⟩
theorem key_T3 : KeyOk [1, 1, 1] T3.enc := ⟨fun _ => rfl, fun _ => rfl, fun a b => by
  cases a; cases b
  simp [veqL, T3.enc, T3.cs, V.cells, sceq, T3.mk.injEq]
  rw [Bool.eq_iff_iff]; simp⟩
theorem key_i64 : KeyOk [1] (V.i .i64) := ⟨fun _ => rfl, fun _ => rfl, fun a b => by
  simp [veqL, V.cells, sceq]
  rw [Bool.eq_iff_iff]; simp⟩
end Go.Abs

set_option linter.unusedVariables false
set_option linter.unusedSimpArgs false
namespace Go.Abs

def kt {K : Type} (en : K → V) (v : K) : V × V := (en v, .b true)
theorem findE_set {K : Type} [DecidableEq K] {ls : List Nat} {en : K → V} (O : KeyOk ls en) (e : K) (U : List K) : findE ls (en e) (U.map (kt en)) = some (if e ∈ U then some (U.idxOf e, .b true) else none) := by
  induction U with
  | nil => simp [findE, O.shape, O.len]
  | cons x r ih =>
    simp only [List.map_cons, kt, findE, O.shape, O.eq, Bool.and_self, if_true]
    by_cases h : e = x
    · simp [h]
    · simp only [h, decide_false]
      have ih' : findE ls (en e) (r.map fun v => (en v, V.b true)) = _ := ih
      have hm : (e ∈ x :: r) = (e ∈ r) := by simp [h]
      have h' : ¬ x = e := fun hh => h hh.symm
      show Option.map _ (findE ls (en e) (r.map (kt en))) = _
      rw [ih]
      have hb : (x == e) = false := by simp [h']
      by_cases hr : e ∈ r <;> simp [hr, h, List.idxOf_cons, h', hb]

theorem v3_cl (t : V3) (n : Nat) : (∀ y ∈ t.cs, y.cl n = true) = True := by simp [V3.cs, V.cl, V.cl1, V.cl0]
theorem kt_cl {K : Type} (en : K → V) (n : Nat) (h : ∀ k, (en k).cl n = true) (U : List K) : ∀ e ∈ U.map (kt en), e.1.cl n = true ∧ e.2.cl n = true := by
  intro e he
  obtain ⟨v, _, rfl⟩ := List.mem_map.1 he
  exact ⟨h v, rfl⟩
theorem v3enc_cl (v : V3) (n : Nat) : v.enc.cl n = true := by simp [V3.enc, V3.cs, V.cl, V.cl1, V.cl0]
theorem t3enc_cl (v : T3) (n : Nat) : v.enc.cl n = true := by simp [T3.enc, T3.cs, V.cl, V.cl1, V.cl0]
theorem t3c_cl (t : T3) (n : Nat) : (∀ y ∈ t.cs, y.cl n = true) = True := by simp [T3.cs, V.cl, V.cl1, V.cl0]
end Go.Abs

