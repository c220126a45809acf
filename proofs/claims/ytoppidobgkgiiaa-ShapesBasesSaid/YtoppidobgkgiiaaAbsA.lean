/- Part of the abstract machine on which the proof stands: its values, code and their soundness against the model. -/
import Derived.WalkKit
set_option linter.unusedVariables false
namespace Go.Abs
open Go.RowKit

/-- Abstract values: what a Go value is, with slices that nobody writes any more held by value. -/
inductive V where
  | any
  | b (x : Bool)
  | i (k : IntKind) (n : Int)
  | s (x : List UInt8)
  | nil
  | l (sz : Nat) (els : List (List V))
  | own (id g off len : Nat)
  | p (id g e j : Nat)
  | ip (cells : List V)
  | np
  | mp (id : Nat)
  | mnil
  | f (fn : FuncId) (caps : List V)
  | a (cells : List V)
  | t (vs : List V)

/-- An entry of the block map: which concrete block an owned object is. -/
structure Ent where
  gen : Nat
  sz : Nat
  blk : Option Nat
  base : Nat
  cap : Nat

/-- Owned objects. -/
inductive O where
  | arr (g sz : Nat) (els : List (List V))
  | mp (ents : List (V × V))
  | it (mid : Option Nat) (since : Nat) (seen : List Nat)
  | dead

/-- Data, by value: reads in world w, all blocks met are in J. -/
inductive RD (J : Nat → Prop) (w : World) : V → Value → Prop
  | b (x : Bool) : RD J w (.b x) (.bool x)
  | i (k : IntKind) (n : Int) : RD J w (.i k n) (.int k n)
  | s (x : List UInt8) : RD J w (.s x) (.string ⟨x.toArray⟩)
  | nil0 : RD J w .nil (.slice none 0 0)
  | nil1 (a : Addr) : RD J w .nil (.slice (some a) 0 0)
  | l0 (sz : Nat) : RD J w (.l sz []) (.slice none 0 0)
  | l1 (sz : Nat) (a : Addr) (cap : Nat) : RD J w (.l sz []) (.slice (some a) 0 cap)
  | l (sz : Nat) (els : List (List V)) (a : Addr) (cap : Nat) (cs : Nat → Nat → Value) (hj : J a.block) (hc : els.length ≤ cap)
      (hsz : ∀ (i : Nat) (el : List V), els[i]? = some el → el.length = sz)
      (hcell : ∀ i j : Nat, i < els.length → j < sz → w.cell? (a.add (i * sz + j)) = some (cs i j))
      (hr : ∀ (i : Nat) (el : List V) (j : Nat) (v : V), els[i]? = some el → el[j]? = some v → RD J w v (cs i j)) : RD J w (.l sz els) (.slice (some a) els.length cap)

/-- Point by point. -/
def Pw (R : V → Value → Prop) (vs : List V) (cs : List Value) : Prop :=
  vs.length = cs.length ∧ ∀ (i : Nat) v c, vs[i]? = some v → cs[i]? = some c → R v c

/-- The slice value that an owned array's header is. -/
def Ent.sl (e : Ent) (off len : Nat) (v : Value) : Prop :=
  match e.blk with
  | none => off = 0 ∧ len = 0 ∧ (v = .slice none 0 0 ∨ ∃ a, v = .slice (some a) 0 0)
  | some B => ∃ o c, v = .slice (some ⟨B, o, none⟩) len c ∧ (len ≤ c ∧ off + c ≤ e.cap) ∧ (0 < c → o = (e.base + off) * e.sz)

/-- One cell, no function value. -/
def RL (J : Nat → Prop) (m : List Ent) (w : World) : V → Value → Prop
  | .any, v => v.oneCell' = true
  | .own id g off len, v => v.oneCell' = true ∧ ∃ e, m[id]? = some e ∧ (1 ≤ g ∧ g ≤ e.gen) ∧ (g = e.gen → e.sl off len v)
  | .p id g el j, v => v.oneCell' = true ∧ ∃ e, m[id]? = some e ∧ (1 ≤ g ∧ g ≤ e.gen) ∧ (g = e.gen → ∃ B, e.blk = some B ∧ v = .pointer (some ⟨B, (e.base + el) * e.sz + j, none⟩))
  | .ip cells, v => ∃ a, v = .pointer (some a) ∧ J a.block ∧ ∀ (j : Nat) (x : V), cells[j]? = some x → ∃ c, w.cell? (a.add j) = some c ∧ RD J w x c
  | .np, v => v = .pointer none
  | .mp id, v => v.oneCell' = true ∧ ∃ e, m[id]? = some e ∧ 1 ≤ e.gen ∧ (1 = e.gen → ∃ B, e.blk = some B ∧ v = .map (some B))
  | .mnil, v => v = .map none
  | .b x, v => RD J w (.b x) v
  | .i k n, v => RD J w (.i k n) v
  | .s x, v => RD J w (.s x) v
  | .nil, v => RD J w .nil v
  | .l sz els, v => RD J w (.l sz els) v
  | .f _ _, _ => False
  | .a _, _ => False
  | .t _, _ => False

/-- One cell. -/
def RC (J : Nat → Prop) (m : List Ent) (w : World) : V → Value → Prop
  | .f fn caps, v => ∃ cs, v = .func (.func fn) #[] cs ∧ Pw (RL J m w) caps cs.toList
  | x, v => RL J m w x v

/-- A value that is no tuple. -/
def RA (J : Nat → Prop) (m : List Ent) (w : World) : V → Value → Prop
  | .any, _ => True
  | .a cs, v => ∃ arr, v = .agg arr ∧ Pw (RC J m w) cs arr.toList
  | x, v => RC J m w x v

/-- What a temporary holds. -/
def RV (J : Nat → Prop) (m : List Ent) (w : World) : V → Value → Prop
  | .t vs, v => ∃ arr, v = .tuple arr ∧ Pw (RA J m w) vs arr.toList
  | x, v => RA J m w x v

def RO (J : Nat → Prop) (m : List Ent) (w : World) (e : Ent) : O → Prop
  | .arr g sz els => e.gen = g ∧ e.sz = sz ∧ (∀ (i : Nat) (el : List V), els[i]? = some el → el.length = sz) ∧
      (match e.blk with
       | none => els = [] ∧ e.cap = 0
       | some B => els.length ≤ e.cap ∧ e.base + e.cap ≤ maxLen ∧ ∃ c ty fz, w.heap[B]? = some (.cells c ty fz) ∧ c.size = (e.base + e.cap) * sz ∧
           (∀ k, k < c.size → ¬ (fz.1 ≤ k ∧ k < fz.2)) ∧
           ∀ (i : Nat) (el : List V) (j : Nat) (x : V), els[i]? = some el → el[j]? = some x → ∃ cv : Value, c[(e.base + i) * sz + j]? = some cv ∧ RC J m w x cv)
  | .mp ents => e.gen = 1 ∧ ∃ B, e.blk = some B ∧ ∃ es : Array MapEntry, w.heap[B]? = some (.map es es.size) ∧ es.size = ents.length ∧
      ∀ (i : Nat) (k v : V), ents[i]? = some (k, v) → ∃ en : MapEntry, es[i]? = some en ∧ en.born = i ∧ RA J m w k en.key ∧ RA J m w v en.val
  | .it mid since seen => e.gen = 1 ∧ e.base = 0 ∧ e.sz = 0 ∧ ∃ B, e.blk = some B ∧ ∃ (mb : Option Nat), w.heap[B]? = some (.mapIter mb since seen.toArray since) ∧
      (match mid with
       | none => mb = none
       | some i => ∃ e', m[i]? = some e' ∧ 1 ≤ e'.gen ∧ (1 = e'.gen → ∃ B', e'.blk = some B' ∧ mb = some B'))
  | .dead => True

structure RS (J : Nat → Prop) (h : List O) (m : List Ent) (w : World) : Prop where
  len : m.length = h.length
  jlt : ∀ k, J k → k < w.heap.size
  dis : ∀ (id : Nat) (e : Ent) (B : Nat), m[id]? = some e → e.blk = some B → ¬ J B ∧ B < w.heap.size
  inj : ∀ (id id' : Nat) (e e' : Ent) (B : Nat), m[id]? = some e → m[id']? = some e' → e.blk = some B → e'.blk = some B → id = id'
  obj : ∀ (id : Nat) (e : Ent) (o : O), m[id]? = some e → h[id]? = some o → RO J m w e o

/-- How the world goes on: blocks that are not the call's own stay. -/
structure Ev (n : Nat) (J : Nat → Prop) (m : List Ent) (w : World) (J' : Nat → Prop) (m' : List Ent) (w' : World) : Prop where
  os : w'.os = w.os
  tape : w'.tape = w.tape
  output : w'.output = w.output
  drawn : w.drawn ≤ w'.drawn
  size : w.heap.size ≤ w'.heap.size
  keep : ∀ k, k < w.heap.size → (∀ (id : Nat) (e : Ent), m[id]? = some e → e.blk ≠ some k) → w'.heap[k]? = w.heap[k]?
  fresh : ∀ (id : Nat) (e : Ent) (B : Nat), m'[id]? = some e → e.blk = some B → w.heap.size ≤ B ∨ ∃ (id0 : Nat) (e0 : Ent), m[id0]? = some e0 ∧ e0.blk = some B
  sub : ∀ k, J k → J' k
  jnew : ∀ k, J' k → J k ∨ w.heap.size ≤ k ∨ ∃ (id0 : Nat) (e0 : Ent), m[id0]? = some e0 ∧ e0.blk = some k
  ents : ∀ (id : Nat) (e : Ent), id < n → m[id]? = some e → ∃ e', m'[id]? = some e' ∧ e.gen ≤ e'.gen ∧ (e.gen = e'.gen ∨ e.gen = 0 → e' = e)

theorem Ev.refl (n : Nat) (J : Nat → Prop) (m : List Ent) (w : World) : Ev n J m w J m w :=
  ⟨rfl, rfl, rfl, Nat.le_refl _, Nat.le_refl _, fun _ _ _ => rfl, fun id e B h1 h2 => .inr ⟨id, e, h1, h2⟩, fun _ h => h, fun _ h => .inl h, fun _ e _ h => ⟨e, h, Nat.le_refl _, fun _ => rfl⟩⟩

theorem Ev.trans {n : Nat} {J J1 J2 : Nat → Prop} {m m1 m2 : List Ent} {w w1 w2 : World} (h : Ev n J m w J1 m1 w1) (k : Ev n J1 m1 w1 J2 m2 w2) : Ev n J m w J2 m2 w2 where
  os := k.os.trans h.os
  tape := k.tape.trans h.tape
  output := k.output.trans h.output
  drawn := Nat.le_trans h.drawn k.drawn
  size := Nat.le_trans h.size k.size
  keep := fun b hb hm => by
    rw [k.keep b (Nat.lt_of_lt_of_le hb h.size) (fun id e h1 h2 => ?_), h.keep b hb hm]
    rcases h.fresh id e b h1 h2 with h3 | ⟨id0, e0, h3, h4⟩
    · omega
    · exact hm id0 e0 h3 h4
  fresh := fun id e B h1 h2 => by
    rcases k.fresh id e B h1 h2 with h3 | ⟨id0, e0, h3, h4⟩
    · exact .inl (Nat.le_trans h.size h3)
    · exact h.fresh id0 e0 B h3 h4
  sub := fun b hb => k.sub b (h.sub b hb)
  jnew := fun b hb => by
    rcases k.jnew b hb with h1 | h1 | ⟨id0, e0, h3, h4⟩
    · exact h.jnew b h1
    · exact .inr (.inl (Nat.le_trans h.size h1))
    · rcases h.fresh id0 e0 b h3 h4 with h5 | h5
      · exact .inr (.inl h5)
      · exact .inr (.inr h5)
  ents := fun id e hn h1 => by
    obtain ⟨e1, h2, h3, h4⟩ := h.ents id e hn h1
    obtain ⟨e2, h5, h6, h7⟩ := k.ents id e1 hn h2
    refine ⟨e2, h5, Nat.le_trans h3 h6, fun he => ?_⟩
    have h8 := h4 (by omega)
    subst h8
    exact h7 he

theorem RD.one {J : Nat → Prop} {w : World} {v : V} {c : Value} (h : RD J w v c) : c.oneCell' = true := by cases h <;> rfl

theorem RL.one {J : Nat → Prop} {m : List Ent} {w : World} {v : V} {c : Value} (h : RL J m w v c) : c.oneCell' = true := by
  cases v <;> simp only [RL] at h
  case any => exact h
  case own => exact h.1
  case p => exact h.1
  case ip => obtain ⟨a, rfl, _⟩ := h; rfl
  case np => subst h; rfl
  case mp => exact h.1
  case mnil => subst h; rfl
  all_goals exact RD.one h

theorem RC.one {J : Nat → Prop} {m : List Ent} {w : World} {v : V} {c : Value} (h : RC J m w v c) : c.oneCell' = true := by
  cases v <;> simp only [RC] at h
  case f => obtain ⟨_, rfl, _⟩ := h; rfl
  all_goals exact RL.one h

theorem RD.mono {J J' : Nat → Prop} {w w' : World} (hJ : ∀ k, J k → J' k) (hw : ∀ k, J k → w'.heap[k]? = w.heap[k]?) {v : V} {c : Value} (h : RD J w v c) : RD J' w' v c := by
  induction h with
  | b x => exact .b x
  | i k n => exact .i k n
  | s x => exact .s x
  | nil0 => exact .nil0
  | nil1 a => exact .nil1 a
  | l0 sz => exact .l0 sz
  | l1 sz a cap => exact .l1 sz a cap
  | l sz els a cap cs hj hc hsz hcell _ ih =>
    refine .l sz els a cap cs (hJ _ hj) hc hsz (fun i j hi hjj => ?_) ih
    rw [World.cell?_of_block (w := w), hcell i j hi hjj]
    have : (a.add (i * sz + j)).block = a.block := by unfold Addr.add; split <;> rfl
    rw [this]; exact hw _ hj

/-- The map of blocks goes on. -/
def Ml (m m' : List Ent) : Prop := ∀ (id : Nat) (e : Ent), m[id]? = some e → ∃ e', m'[id]? = some e' ∧ e.gen ≤ e'.gen ∧ (e.gen = e'.gen ∨ e.gen = 0 → e' = e)

/-- The same of the objects that are there; an object's place may be taken. -/
def Ml0 (m m' : List Ent) : Prop := ∀ (id : Nat) (e : Ent), m[id]? = some e → 1 ≤ e.gen → ∃ e', m'[id]? = some e' ∧ e.gen ≤ e'.gen ∧ (e.gen = e'.gen → e' = e)

theorem Ml.weak {m m' : List Ent} (h : Ml m m') : Ml0 m m' := fun id e he _ => by
  obtain ⟨e', h1, h2, h3⟩ := h id e he
  exact ⟨e', h1, h2, fun hg => h3 (.inl hg)⟩

theorem Ml.refl (m : List Ent) : Ml m m := fun _ e h => ⟨e, h, Nat.le_refl _, fun _ => rfl⟩
theorem Ml.nil (m : List Ent) : Ml [] m := fun _ _ h => by simp at h
theorem Ml.app (m k : List Ent) : Ml m (m ++ k) := fun id e h => ⟨e, by rw [List.getElem?_append_left (List.getElem?_eq_some_iff.1 h).1]; exact h, Nat.le_refl _, fun _ => rfl⟩

theorem Pw.imp {R R' : V → Value → Prop} {vs : List V} {cs : List Value} (h : Pw R vs cs) (hr : ∀ v c, R v c → R' v c) : Pw R' vs cs :=
  ⟨h.1, fun i v c h1 h2 => hr _ _ (h.2 i v c h1 h2)⟩

section mono0
variable {J J' : Nat → Prop} {m m' : List Ent} {w w' : World} (hJ : ∀ k, J k → J' k) (hw : ∀ k, J k → w'.heap[k]? = w.heap[k]?) (hm : Ml0 m m')
include hJ hw hm

theorem RL.mono0 {v : V} {c : Value} (h : RL J m w v c) : RL J' m' w' v c := by
  cases v <;> simp only [RL] at h ⊢
  case any => exact h
  case own id g off len =>
    obtain ⟨h0, e, h1, h2, h3⟩ := h
    obtain ⟨e', h4, h5, h6⟩ := hm id e h1 (by omega)
    refine ⟨h0, e', h4, ⟨h2.1, Nat.le_trans h2.2 h5⟩, fun hg => ?_⟩
    have := h6 (by omega)
    subst this
    exact h3 (by omega)
  case p id g el j =>
    obtain ⟨h0, e, h1, h2, h3⟩ := h
    obtain ⟨e', h4, h5, h6⟩ := hm id e h1 (by omega)
    refine ⟨h0, e', h4, ⟨h2.1, Nat.le_trans h2.2 h5⟩, fun hg => ?_⟩
    have := h6 (by omega)
    subst this
    exact h3 (by omega)
  case ip cells =>
    obtain ⟨a, h1, h2, h3⟩ := h
    refine ⟨a, h1, hJ _ h2, fun j x hx => ?_⟩
    obtain ⟨cv, h4, h5⟩ := h3 j x hx
    refine ⟨cv, ?_, h5.mono hJ hw⟩
    rw [World.cell?_of_block (w := w), h4]
    have : (a.add j).block = a.block := by unfold Addr.add; split <;> rfl
    rw [this]; exact hw _ h2
  case np => exact h
  case mp id =>
    obtain ⟨h0, e, h1, h2, h3⟩ := h
    obtain ⟨e', h4, h5, h6⟩ := hm id e h1 h2
    refine ⟨h0, e', h4, by omega, fun hg => ?_⟩
    have := h6 (by omega)
    subst this
    exact h3 hg
  case mnil => exact h
  all_goals exact h.mono hJ hw

theorem RC.mono0 {v : V} {c : Value} (h : RC J m w v c) : RC J' m' w' v c := by
  cases v <;> simp only [RC] at h ⊢
  case f fn caps =>
    obtain ⟨cs, h1, h2⟩ := h
    exact ⟨cs, h1, h2.imp fun _ _ h => RL.mono0 hJ hw hm h⟩
  all_goals exact RL.mono0 hJ hw hm h

theorem RA.mono0 {v : V} {c : Value} (h : RA J m w v c) : RA J' m' w' v c := by
  cases v <;> simp only [RA] at h ⊢
  case a cs =>
    obtain ⟨arr, h1, h2⟩ := h
    exact ⟨arr, h1, h2.imp fun _ _ h => RC.mono0 hJ hw hm h⟩
  all_goals exact RC.mono0 hJ hw hm h

theorem RV.mono0 {v : V} {c : Value} (h : RV J m w v c) : RV J' m' w' v c := by
  cases v <;> simp only [RV] at h ⊢
  case t vs =>
    obtain ⟨arr, h1, h2⟩ := h
    exact ⟨arr, h1, h2.imp fun _ _ h => RA.mono0 hJ hw hm h⟩
  all_goals exact RA.mono0 hJ hw hm h
end mono0

section mono
variable {J J' : Nat → Prop} {m m' : List Ent} {w w' : World} (hJ : ∀ k, J k → J' k) (hw : ∀ k, J k → w'.heap[k]? = w.heap[k]?) (hm : Ml m m')
include hJ hw hm
theorem RL.mono {v : V} {c : Value} (h : RL J m w v c) : RL J' m' w' v c := RL.mono0 hJ hw hm.weak h
theorem RC.mono {v : V} {c : Value} (h : RC J m w v c) : RC J' m' w' v c := RC.mono0 hJ hw hm.weak h
theorem RA.mono {v : V} {c : Value} (h : RA J m w v c) : RA J' m' w' v c := RA.mono0 hJ hw hm.weak h
theorem RV.mono {v : V} {c : Value} (h : RV J m w v c) : RV J' m' w' v c := RV.mono0 hJ hw hm.weak h
end mono

/-- The state of a function's run: what its temporaries hold, its own objects. -/
structure St where
  env : List (Nat × V)
  h : List O

def get (t : Nat) : List (Nat × V) → V
  | [] => .any
  | (s, u) :: r => if t = s then u else get t r

def put (t : Nat) (v : V) : List (Nat × V) → List (Nat × V)
  | [] => [(t, v)]
  | (s, u) :: r => if t < s then (t, v) :: (s, u) :: r else if t = s then (t, v) :: r else (s, u) :: put t v r

theorem get_put_same (t : Nat) (v : V) (env : List (Nat × V)) : get t (put t v env) = v := by
  induction env with
  | nil => simp [put, get]
  | cons x r ih =>
    obtain ⟨s, u⟩ := x
    simp only [put]
    split
    · simp [get]
    · split
      · simp [get]
      · rename_i h1 h2
        simp [get, h2, ih]

theorem get_put_ne {t u : Nat} (v : V) (env : List (Nat × V)) (h : u ≠ t) : get u (put t v env) = get u env := by
  induction env with
  | nil => simp [put, get, h]
  | cons x r ih =>
    obtain ⟨s, y⟩ := x
    simp only [put]
    split
    · simp [get, h]
    · split
      · rename_i h1 h2
        subst h2
        simp [get, h]
      · rename_i h1 h2
        simp only [get]
        split
        · rfl
        · exact ih

structure Rel (J : Nat → Prop) (m : List Ent) (σ : St) (a : Act) (w : World) : Prop where
  tmps : ∀ t, RV J m w (get t σ.env) (a.tmps.getD t undef)
  rs : RS J σ.h m w
  defers : a.defers = []

end Go.Abs
