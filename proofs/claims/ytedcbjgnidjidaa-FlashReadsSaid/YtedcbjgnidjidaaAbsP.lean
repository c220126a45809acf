/- Part of the abstract machine on which the proof stands: its values, code and their soundness against the model. -/
import Derived.Test.YtedcbjgnidjidaaAbsN
set_option linter.unusedVariables false
set_option linter.unusedSimpArgs false
namespace Go.Abs
open Go.RowKit

/-! Regions that draw their order: the text's order serves all. -/

def lastW (q : Nat → Bool) : Nat → Option Nat
  | 0 => none
  | n + 1 => if q n then some n else lastW q n

theorem lastW_congr {q q' : Nat → Bool} : ∀ {n : Nat}, (∀ k, k < n → q k = q' k) → lastW q n = lastW q' n
  | 0, _ => rfl
  | n + 1, h => by
    simp only [lastW, h n (by omega)]
    rw [lastW_congr (n := n) (fun k hk => h k (by omega))]

theorem lastW_of {q : Nat → Bool} {i : Nat} : ∀ {n : Nat}, q i = true → i < n → (∀ k, i < k → k < n → q k = false) → lastW q n = some i
  | 0, _, h, _ => by omega
  | n + 1, h1, h2, h3 => by
    simp only [lastW]
    by_cases hn : i = n
    · subst hn; simp [h1]
    · rw [h3 n (by omega) (by omega)]
      simpa using lastW_of (n := n) h1 (by omega) (fun k a b => h3 k a (by omega))

theorem lastW_bound {q : Nat → Bool} {j : Nat} : ∀ {n : Nat}, j ≤ n → (∀ k, j ≤ k → k < n → q k = false) → lastW q n = lastW q j
  | 0, h, _ => by have : j = 0 := by omega
                  subst this; rfl
  | n + 1, h1, h2 => by
    by_cases hn : j = n + 1
    · subst hn; rfl
    · simp only [lastW, h2 n (by omega) (by omega)]
      simpa using lastW_bound (n := n) (by omega) (fun k a b => h2 k a (by omega))

def maskOf (o : Oper) (acc : List Nat) : Nat :=
  o.after.toList.foldl (fun s e => if Region.binds .any e && decide (e.on < acc.length) then s ||| 2 ^ e.on ||| acc.getD e.on 0 else s) 0

def befs : List Oper → List Nat → List Nat
  | [], acc => acc
  | o :: l, acc => befs l (acc ++ [maskOf o acc])

theorem mask_fold {acc : List Nat} {i : Nat} : ∀ (es : List Edge) (s : Nat), (es.foldl (fun s e => if Region.binds .any e && decide (e.on < acc.length) then s ||| 2 ^ e.on ||| acc.getD e.on 0 else s) s).testBit i = true →
    s.testBit i = true ∨ ∃ e ∈ es, Region.binds .any e = true ∧ e.on < acc.length ∧ (i = e.on ∨ (acc.getD e.on 0).testBit i = true)
  | [], s, h => .inl h
  | e :: es, s, h => by
    simp only [List.foldl_cons] at h
    rcases mask_fold es _ h with h1 | ⟨e', h1, h2⟩
    · split at h1
      · rename_i hb
        simp only [Bool.and_eq_true, decide_eq_true_eq] at hb
        simp only [Nat.testBit_or, Bool.or_eq_true] at h1
        rcases h1 with (h1 | h1) | h1
        · exact .inl h1
        · rw [Nat.testBit_two_pow] at h1
          exact .inr ⟨e, by simp, hb.1, hb.2, .inl (by simpa using h1 : e.on = i).symm⟩
        · exact .inr ⟨e, by simp, hb.1, hb.2, .inr h1⟩
      · exact .inl h1
    · exact .inr ⟨e', by simp [h1], h2⟩

/-- What the masks say. -/
def MaskOk (ops : List Oper) (acc : List Nat) : Prop :=
  acc.length ≤ ops.length ∧ ∀ (j i : Nat), j < acc.length → (acc.getD j 0).testBit i = true →
    ∃ o, ops[j]? = some o ∧ ∃ e ∈ o.after.toList, Region.binds .any e = true ∧ (i = e.on ∨ (e.on < j ∧ (acc.getD e.on 0).testBit i = true))

theorem befs_ok : ∀ (l pre : List Oper) (acc : List Nat), acc.length = pre.length → MaskOk (pre ++ l) acc → MaskOk (pre ++ l) (befs l acc)
  | [], pre, acc, _, h => h
  | o :: l, pre, acc, hl, h => by
    have := befs_ok l (pre ++ [o]) (acc ++ [maskOf o acc]) (by simp [hl])
    simp only [List.append_assoc, List.singleton_append] at this
    refine this ⟨by simp [hl], fun j i hj hb => ?_⟩
    have hgetlt : ∀ k, k < acc.length → (acc ++ [maskOf o acc]).getD k 0 = acc.getD k 0 := by
      intro k hk
      simp [List.getD_eq_getElem?_getD, List.getElem?_append_left hk]
    by_cases hjl : j < acc.length
    · rw [hgetlt j hjl] at hb
      obtain ⟨o', h1, e, h2, h3, h4⟩ := h.2 j i hjl hb
      refine ⟨o', h1, e, h2, h3, ?_⟩
      rcases h4 with h4 | ⟨h4, h5⟩
      · exact .inl h4
      · exact .inr ⟨h4, by rw [hgetlt _ (by omega)]; exact h5⟩
    · have hje : j = acc.length := by simp at hj; omega
      subst hje
      have hlast : (acc ++ [maskOf o acc]).getD acc.length 0 = maskOf o acc := by simp [List.getD_eq_getElem?_getD]
      rw [hlast] at hb
      refine ⟨o, by rw [hl]; simp, ?_⟩
      rcases mask_fold _ _ hb with h1 | ⟨e, h1, h2, h3, h4⟩
      · simp at h1
      · refine ⟨e, h1, h2, ?_⟩
        rcases h4 with h4 | h4
        · exact .inl h4
        · exact .inr ⟨h3, by rw [hgetlt _ h3]; exact h4⟩

theorem mask_closed {ops : List Oper} {acc : List Nat} (hm : MaskOk ops acc) {S : Nat → Prop} (hS : ∀ (j : Nat) o, ops[j]? = some o → S j → ∀ e ∈ o.after.toList, Region.binds .any e = true → S e.on) :
    ∀ (j : Nat), (∀ o, ops[j]? = some o → ∀ e ∈ o.after.toList, Region.binds .any e = true → S e.on) → ∀ i, j < acc.length → (acc.getD j 0).testBit i = true → S i := by
  intro j
  induction j using Nat.strongRecOn with
  | _ j ih =>
    intro hj i hjl hb
    obtain ⟨o, h1, e, h2, h3, h4⟩ := hm.2 j i hjl hb
    have h5 := hj o h1 e h2 h3
    rcases h4 with h4 | ⟨h4, h6⟩
    · rw [h4]; exact h5
    · exact ih e.on h4 (fun o' ho' => hS e.on o' ho' h5) i (by omega) h6

def conf (a b : Ins) : Bool :=
  (match a.d with | some t => b.uses.contains t | none => false) || (match a.d with | some t => b.d == some t | none => false) || (match b.d with | some t => a.uses.contains t | none => false) ||
    (a.i.cls == 2 && decide (1 ≤ b.i.cls)) || (decide (1 ≤ a.i.cls) && b.i.cls == 2)

def orderOk (ops : List Oper) (xs : List Ins) : Bool :=
  let B := befs ops []
  ((List.range ops.length).all fun j => match ops[j]? with
    | some o => o.after.toList.all fun e => !Region.binds .any e || decide (e.on < j)
    | none => true) &&
  (List.range xs.length).all fun j => (List.range j).all fun i => match xs[i]?, xs[j]? with
    | some a, some b => !conf a b || (B.getD j 0).testBit i
    | _, _ => true

theorem befs_len : ∀ (l : List Oper) (acc : List Nat), (befs l acc).length = acc.length + l.length
  | [], acc => by simp [befs]
  | o :: l, acc => by rw [befs, befs_len l]; simp; omega

theorem evF_congr {E E' : Nat → V} {x : A} (h : ∀ t ∈ x.tmps, E t = E' t) : evF E x = evF E' x := by
  cases x with
  | t n => exact h n (by simp [A.tmps])
  | c v => rfl

theorem evF_congrL {E E' : Nat → V} {xs : List A} (h : ∀ t ∈ xs.flatMap A.tmps, E t = E' t) : xs.map (evF E) = xs.map (evF E') := by
  apply List.map_congr_left
  intro x hx
  exact evF_congr fun t ht => h t (List.mem_flatMap.2 ⟨x, hx, ht⟩)

theorem stepI_congr {E E' : Nat → V} {i : I} (h : ∀ t ∈ i.uses, E t = E' t) (hp : List O) : stepI i (evF E) hp = stepI i (evF E') hp := by
  cases i <;> simp only [I.uses, List.mem_append] at h <;> simp only [stepI]
  all_goals try rw [evF_congr (E := E) (E' := E') (fun t ht => h t ht)]
  case pick c a b => rw [evF_congr (x := c) (fun t ht => h t (by simp [ht])), evF_congr (x := a) (fun t ht => h t (by simp [ht])), evF_congr (x := b) (fun t ht => h t (by simp [ht]))]
  case mx xs => rw [evF_congrL h]
  case mn xs => rw [evF_congrL h]
  case mkf f xs => rw [evF_congrL h]
  case build z ps =>
    have : (ps.map fun (o, s, x) => (o, s, evF E x)) = ps.map fun (o, s, x) => (o, s, evF E' x) := by
      apply List.map_congr_left
      rintro ⟨o, s, x⟩ hp
      show (o, s, evF E x) = (o, s, evF E' x)
      rw [evF_congr (x := x) (fun t ht => h t (List.mem_flatMap.2 ⟨_, hp, ht⟩))]
    rw [this]
  case bsi sz len z ps =>
    have : (ps.map fun (i, x) => (i, evF E x)) = ps.map fun (i, x) => (i, evF E' x) := by
      apply List.map_congr_left
      rintro ⟨i, x⟩ hp
      show (i, evF E x) = (i, evF E' x)
      rw [evF_congr (x := x) (fun t ht => h t (List.mem_flatMap.2 ⟨_, hp, ht⟩))]
    rw [this]
  case bso sz len z ps =>
    have : (ps.map fun (i, x) => (i, evF E x)) = ps.map fun (i, x) => (i, evF E' x) := by
      apply List.map_congr_left
      rintro ⟨i, x⟩ hp
      show (i, evF E x) = (i, evF E' x)
      rw [evF_congr (x := x) (fun t ht => h t (List.mem_flatMap.2 ⟨_, hp, ht⟩))]
    rw [this]
  case slc sz x lo hi =>
    have hlo : lo.map (evF E) = lo.map (evF E') := by cases lo with
      | none => rfl
      | some l => simp only [Option.map_some]; rw [evF_congr (fun t ht => h t (by simp [ht]))]
    have hhi : hi.map (evF E) = hi.map (evF E') := by cases hi with
      | none => rfl
      | some l => simp only [Option.map_some]; rw [evF_congr (fun t ht => h t (by simp [ht]))]
    rw [evF_congr (x := x) (fun t ht => h t (by simp [ht])), hlo, hhi]
  case slcs x lo hi =>
    have hlo : lo.map (evF E) = lo.map (evF E') := by cases lo with
      | none => rfl
      | some l => simp only [Option.map_some]; rw [evF_congr (fun t ht => h t (by simp [ht]))]
    have hhi : hi.map (evF E) = hi.map (evF E') := by cases hi with
      | none => rfl
      | some l => simp only [Option.map_some]; rw [evF_congr (fun t ht => h t (by simp [ht]))]
    rw [evF_congr (x := x) (fun t ht => h t (by simp [ht])), hlo, hhi]
  case mup ks a b c => rw [evF_congr (x := a) (fun t ht => h t (by simp [ht])), evF_congr (x := b) (fun t ht => h t (by simp [ht])), evF_congr (x := c) (fun t ht => h t (by simp [ht]))]
  case est a b c => rw [evF_congr (x := a) (fun t ht => h t (by simp [ht])), evF_congr (x := b) (fun t ht => h t (by simp [ht])), evF_congr (x := c) (fun t ht => h t (by simp [ht]))]
  case st n a b => rw [evF_congr (x := a) (fun t ht => h t (by simp [ht])), evF_congr (x := b) (fun t ht => h t (by simp [ht]))]
  case ia n a b => rw [evF_congr (x := a) (fun t ht => h t (by simp [ht])), evF_congr (x := b) (fun t ht => h t (by simp [ht]))]
  case iaa n k a b => rw [evF_congr (x := a) (fun t ht => h t (by simp [ht])), evF_congr (x := b) (fun t ht => h t (by simp [ht]))]
  case ix n k l a b => rw [evF_congr (x := a) (fun t ht => h t (by simp [ht])), evF_congr (x := b) (fun t ht => h t (by simp [ht]))]
  case ixs a b => rw [evF_congr (x := a) (fun t ht => h t (by simp [ht])), evF_congr (x := b) (fun t ht => h t (by simp [ht]))]
  case bin n a b => rw [evF_congr (x := a) (fun t ht => h t (by simp [ht])), evF_congr (x := b) (fun t ht => h t (by simp [ht]))]
  case eqb n a b => rw [evF_congr (x := a) (fun t ht => h t (by simp [ht])), evF_congr (x := b) (fun t ht => h t (by simp [ht]))]
  case eqa n k a b => rw [evF_congr (x := a) (fun t ht => h t (by simp [ht])), evF_congr (x := b) (fun t ht => h t (by simp [ht]))]
  case app n k a b => rw [evF_congr (x := a) (fun t ht => h t (by simp [ht])), evF_congr (x := b) (fun t ht => h t (by simp [ht]))]
  case copy n a b => rw [evF_congr (x := a) (fun t ht => h t (by simp [ht])), evF_congr (x := b) (fun t ht => h t (by simp [ht]))]
  case lk n k l a b => rw [evF_congr (x := a) (fun t ht => h t (by simp [ht])), evF_congr (x := b) (fun t ht => h t (by simp [ht]))]
  case ment n k a b => rw [evF_congr (x := a) (fun t ht => h t (by simp [ht])), evF_congr (x := b) (fun t ht => h t (by simp [ht]))]

theorem stepI_reads {i : I} {ev : A → V} {h h' : List O} {r : V} (hc : i.cls ≠ 2) (hs : stepI i ev h = some (r, h')) : h' = h := by
  cases i <;> simp only [I.cls, ne_eq, not_true_eq_false, reduceCtorEq, Nat.reduceEqDiff, not_false_eq_true] at hc <;> simp only [stepI] at hs
  all_goals (repeat' split at hs)
  all_goals first
    | (simp at hs; done)
    | (simp only [Option.some.injEq, Prod.mk.injEq] at hs; exact hs.2.symm)
    | (simp only [Option.map_eq_some_iff, Option.bind_eq_some_iff, Option.ite_none_right_eq_some, Option.some.injEq, Prod.mk.injEq] at hs; obtain ⟨_, _, _, hs⟩ := hs; first | exact hs.symm | exact hs.2.symm)

theorem stepI_pure {i : I} {ev : A → V} {h h' h2 : List O} {r : V} (hc : i.cls = 0) (hs : stepI i ev h = some (r, h')) : stepI i ev h2 = some (r, h2) := by
  cases i <;> simp only [I.cls, reduceCtorEq, Nat.reduceEqDiff] at hc <;> simp only [stepI] at hs ⊢
  case bsi sz len z ps =>
    obtain ⟨q, h3, h4⟩ := Option.bind_eq_some_iff.1 hs
    refine Option.bind_eq_some_iff.2 ⟨q, h3, ?_⟩
    split at h4
    · rename_i hq
      rw [if_pos hq]
      simp only [Option.some.injEq, Prod.mk.injEq] at h4 ⊢
      exact ⟨h4.1, trivial⟩
    · simp at h4
  all_goals (repeat' split at hs)
  all_goals first
    | (simp at hs; done)
    | (simp only [Option.some.injEq, Prod.mk.injEq] at hs; simp_all; done)
    | (simp only [Option.map_eq_some_iff, Option.bind_eq_some_iff, Option.ite_none_right_eq_some, Option.some.injEq, Prod.mk.injEq] at hs ⊢
       obtain ⟨q, h3, h4, hs⟩ := hs
       first
       | exact ⟨q, h3, h4, rfl⟩
       | exact ⟨q, h3, h4, hs.1, rfl⟩
       | (simp_all; done))
    | (simp_all; done)
end Go.Abs
