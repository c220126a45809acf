/- Part of the abstract machine on which the proof stands: its values, code and their soundness against the model. -/
import Derived.Test.YtoppidobgkgiiaaAbsC
set_option linter.unusedVariables false
set_option linter.unusedSimpArgs false
namespace Go.Abs
open Go.RowKit

/- NEW OBJECTS ARE PUT WHERE A PLACE WAS KEPT FOR THEM. -/

def mvN (L s id : Nat) : Nat := if id < L then id else s + (id - L)

def V.mv0 (L s : Nat) : V → V
  | .own id g off len => .own (mvN L s id) g off len
  | .p id g e j => .p (mvN L s id) g e j
  | .mp id => .mp (mvN L s id)
  | v => v

def V.mv1 (L s : Nat) : V → V
  | .f fn caps => .f fn (caps.map (V.mv0 L s))
  | v => v.mv0 L s

def V.mv2 (L s : Nat) : V → V
  | .a cs => .a (cs.map (V.mv1 L s))
  | v => v.mv1 L s

def V.mv (L s : Nat) : V → V
  | .t vs => .t (vs.map (V.mv2 L s))
  | v => v.mv2 L s

def O.mv (L s : Nat) : O → O
  | .arr g sz els => .arr g sz (els.map fun el => el.map (V.mv1 L s))
  | .mp es => .mp (es.map fun e => (e.1.mv2 L s, e.2.mv2 L s))
  | .it mid since seen => .it (mid.map (mvN L s)) since seen
  | .dead => .dead

def putAt {α : Type} (l xs : List α) (s : Nat) : List α := l.take s ++ xs ++ l.drop (s + xs.length)

theorem putAt_len {α : Type} {l xs : List α} {s : Nat} (h : s + xs.length ≤ l.length) : (putAt l xs s).length = l.length := by
  simp [putAt]; omega

theorem putAt_new {α : Type} {l xs : List α} {s i : Nat} (h : s + xs.length ≤ l.length) (hi : i < xs.length) : (putAt l xs s)[s + i]? = xs[i]? := by
  have h1 : (l.take s).length = s := by simp; omega
  unfold putAt
  rw [List.append_assoc, List.getElem?_append_right (by omega), h1, Nat.add_sub_cancel_left, List.getElem?_append_left hi]

theorem putAt_old {α : Type} {l xs : List α} {s id : Nat} (h : s + xs.length ≤ l.length) (hi : id < s ∨ s + xs.length ≤ id) : (putAt l xs s)[id]? = l[id]? := by
  have h1 : (l.take s).length = s := by simp; omega
  unfold putAt
  rcases hi with hi | hi
  · rw [List.append_assoc, List.getElem?_append_left (by omega), List.getElem?_take, if_pos hi]
  · rw [List.append_assoc, List.getElem?_append_right (by omega), h1, List.getElem?_append_right (by omega), List.getElem?_drop]
    congr 1; omega

section
variable {J : Nat → Prop} {w : World}

theorem RL_ids {m : List Ent} {v : V} {c : Value} (h : RL J m w v c) : (∀ id g off len, v = .own id g off len → ∃ e, m[id]? = some e ∧ 1 ≤ e.gen) ∧ (∀ id g e' j, v = .p id g e' j → ∃ e, m[id]? = some e ∧ 1 ≤ e.gen) ∧ (∀ id, v = .mp id → ∃ e, m[id]? = some e ∧ 1 ≤ e.gen) := by
  refine ⟨?_, ?_, ?_⟩
  · rintro id g off len rfl
    obtain ⟨_, e, h1, h2, _⟩ := h
    exact ⟨e, h1, by omega⟩
  · rintro id g e' j rfl
    obtain ⟨_, e, h1, h2, _⟩ := h
    exact ⟨e, h1, by omega⟩
  · rintro id rfl
    obtain ⟨_, e, h1, h2, _⟩ := h
    exact ⟨e, h1, h2⟩

theorem mvN_lt {L s id : Nat} (h : id < L) : mvN L s id = id := if_pos h

theorem RL_clo {m : List Ent} {v : V} {c : Value} (h : RL J m w v c) (s : Nat) : v.mv0 m.length s = v := by
  cases v <;> simp only [V.mv0]
  all_goals
    obtain ⟨_, e, h1, _⟩ := h
    rw [mvN_lt (List.getElem?_eq_some_iff.1 h1).1]

theorem map_clo {R : V → Value → Prop} {f : V → V} (hR : ∀ v c, R v c → f v = v) {vs : List V} {cs : List Value} (hp : Pw R vs cs) : vs.map f = vs := by
  apply List.ext_getElem?
  intro i
  rw [List.getElem?_map]
  cases hv : vs[i]? with
  | none => rfl
  | some v =>
    obtain ⟨c, _, h2⟩ := hp.get hv
    simp [hR v c h2]

theorem RC_clo {m : List Ent} {v : V} {c : Value} (h : RC J m w v c) (s : Nat) : v.mv1 m.length s = v := by
  cases v
  case f fn caps =>
    obtain ⟨cs, h1, h2⟩ := h
    simp only [V.mv1]
    rw [map_clo (fun v c h => RL_clo h s) h2]
  all_goals
    simp only [RC] at h
    exact RL_clo (J := J) (w := w) h s

theorem RA_clo {m : List Ent} {v : V} {c : Value} (h : RA J m w v c) (s : Nat) : v.mv2 m.length s = v := by
  cases v
  case any => rfl
  case a cs =>
    obtain ⟨arr, h1, h2⟩ := h
    simp only [V.mv2]
    rw [map_clo (fun v c h => RC_clo h s) h2]
  all_goals
    simp only [RA] at h
    exact RC_clo (J := J) (w := w) h s

theorem RV_clo {m : List Ent} {v : V} {c : Value} (h : RV J m w v c) (s : Nat) : v.mv m.length s = v := by
  cases v
  case t vs =>
    obtain ⟨arr, h1, h2⟩ := h
    simp only [V.mv]
    rw [map_clo (fun v c h => RA_clo h s) h2]
  all_goals
    simp only [RV] at h
    exact RA_clo (J := J) (w := w) h s

theorem RO_clo {m : List Ent} {e : Ent} {o : O} (h : RO J m w e o) (s : Nat) : o.mv m.length s = o := by
  cases o with
  | dead => rfl
  | it mid since seen =>
    obtain ⟨_, _, _, B, _, mb, _, h1⟩ := h
    cases mid with
    | none => rfl
    | some i =>
      obtain ⟨e', h2, _⟩ := h1
      simp [O.mv, mvN_lt (List.getElem?_eq_some_iff.1 h2).1]
  | mp es =>
    obtain ⟨_, B, _, ms, _, h1, h2⟩ := h
    simp only [O.mv]
    congr 1
    apply List.ext_getElem?
    intro i
    rw [List.getElem?_map]
    cases hv : es[i]? with
    | none => rfl
    | some p =>
      obtain ⟨k, v⟩ := p
      obtain ⟨en, _, _, h3, h4⟩ := h2 i k v hv
      simp [RA_clo h3 s, RA_clo h4 s]
  | arr g sz els =>
    obtain ⟨_, _, _, h1⟩ := h
    simp only [O.mv]
    cases hb : e.blk with
    | none =>
      rw [hb] at h1
      rw [h1.1]; rfl
    | some B =>
      rw [hb] at h1
      obtain ⟨_, _, c, ty, fz, _, _, _, h2⟩ := h1
      congr 1
      apply List.ext_getElem?
      intro i
      rw [List.getElem?_map]
      cases hv : els[i]? with
      | none => rfl
      | some el =>
        simp only [Option.map_some]
        congr 1
        apply List.ext_getElem?
        intro j
        rw [List.getElem?_map]
        cases hx : el[j]? with
        | none => rfl
        | some x =>
          obtain ⟨cv, _, h3⟩ := h2 i el j x hv hx
          simp [RC_clo h3 s]

section fill
variable {mA mk : List Ent} {s : Nat} (hs : s + mk.length ≤ mA.length) (hg : ∀ id e, s ≤ id → id < s + mk.length → mA[id]? = some e → e.gen = 0)
include hs hg

theorem ent_mv {id : Nat} {e : Ent} (he : (mA ++ mk)[id]? = some e) (h1 : 1 ≤ e.gen) : (putAt mA mk s)[mvN mA.length s id]? = some e := by
  unfold mvN
  split
  · rename_i hlt
    rw [List.getElem?_append_left hlt] at he
    rw [putAt_old hs, he]
    rcases Nat.lt_or_ge id s with h2 | h2
    · exact .inl h2
    · rcases Nat.lt_or_ge id (s + mk.length) with h3 | h3
      · have := hg id e h2 h3 he; omega
      · exact .inr h3
  · rename_i hge
    rw [List.getElem?_append_right (by omega)] at he
    rw [putAt_new hs (List.getElem?_eq_some_iff.1 he).1]
    exact he

theorem RL.mv {v : V} {c : Value} (h : RL J (mA ++ mk) w v c) : RL J (putAt mA mk s) w (v.mv0 mA.length s) c := by
  cases v <;> simp only [V.mv0, RL] at h ⊢
  case own => obtain ⟨h0, e, h1, h2, h3⟩ := h; exact ⟨h0, e, ent_mv hs hg h1 (by omega), h2, h3⟩
  case p => obtain ⟨h0, e, h1, h2, h3⟩ := h; exact ⟨h0, e, ent_mv hs hg h1 (by omega), h2, h3⟩
  case mp => obtain ⟨h0, e, h1, h2, h3⟩ := h; exact ⟨h0, e, ent_mv hs hg h1 h2, h2, h3⟩
  all_goals exact h

omit hs hg in
theorem Pw.mapf {R R' : V → Value → Prop} {f : V → V} (hR : ∀ v c, R v c → R' (f v) c) {vs : List V} {cs : List Value} (hp : Pw R vs cs) : Pw R' (vs.map f) cs := by
  refine ⟨by rw [List.length_map, hp.1], fun i v c h1 h2 => ?_⟩
  rw [List.getElem?_map, Option.map_eq_some_iff] at h1
  obtain ⟨u, hu, rfl⟩ := h1
  exact hR u c (hp.2 i u c hu h2)

theorem RC.mv {v : V} {c : Value} (h : RC J (mA ++ mk) w v c) : RC J (putAt mA mk s) w (v.mv1 mA.length s) c := by
  cases v
  case f fn caps =>
    obtain ⟨cs, h1, h2⟩ := h
    exact ⟨cs, h1, h2.mapf fun _ _ h => RL.mv hs hg h⟩
  all_goals
    simp only [RC] at h
    exact RL.mv (w := w) hs hg h

theorem RA.mv {v : V} {c : Value} (h : RA J (mA ++ mk) w v c) : RA J (putAt mA mk s) w (v.mv2 mA.length s) c := by
  cases v
  case any => trivial
  case a cs =>
    obtain ⟨arr, h1, h2⟩ := h
    exact ⟨arr, h1, h2.mapf fun _ _ h => RC.mv hs hg h⟩
  all_goals
    simp only [RA] at h
    exact RC.mv (w := w) hs hg h

theorem RV.mv {v : V} {c : Value} (h : RV J (mA ++ mk) w v c) : RV J (putAt mA mk s) w (v.mv mA.length s) c := by
  cases v
  case t vs =>
    obtain ⟨arr, h1, h2⟩ := h
    exact ⟨arr, h1, h2.mapf fun _ _ h => RA.mv hs hg h⟩
  all_goals
    simp only [RV] at h
    exact RA.mv (w := w) hs hg h

theorem RO.mv {e : Ent} {o : O} (h : RO J (mA ++ mk) w e o) : RO J (putAt mA mk s) w e (o.mv mA.length s) := by
  cases o with
  | dead => trivial
  | it mid since seen =>
    obtain ⟨h1, h2, h3, B, h4, mb, h5, h6⟩ := h
    refine ⟨h1, h2, h3, B, h4, mb, h5, ?_⟩
    cases mid with
    | none => exact h6
    | some i =>
      obtain ⟨e', h7, h8, h9⟩ := h6
      exact ⟨e', ent_mv hs hg h7 h8, h8, h9⟩
  | mp es =>
    obtain ⟨h1, B, h2, es', h3, h4, h5⟩ := h
    refine ⟨h1, B, h2, es', h3, by simp [h4], fun i k v hi => ?_⟩
    rw [List.getElem?_map, Option.map_eq_some_iff] at hi
    obtain ⟨⟨k0, v0⟩, hu, hkv⟩ := hi
    simp only [Prod.mk.injEq] at hkv
    obtain ⟨rfl, rfl⟩ := hkv
    obtain ⟨en, h6, h7, h8, h9⟩ := h5 i k0 v0 hu
    exact ⟨en, h6, h7, RA.mv hs hg h8, RA.mv hs hg h9⟩
  | arr g sz els =>
    obtain ⟨h1, h2, h3, h4⟩ := h
    refine ⟨h1, h2, fun i el hi => ?_, ?_⟩
    · rw [List.getElem?_map, Option.map_eq_some_iff] at hi
      obtain ⟨u, hu, rfl⟩ := hi
      rw [List.length_map]; exact h3 i u hu
    · cases hb : e.blk with
      | none =>
        rw [hb] at h4
        obtain ⟨rfl, h5⟩ := h4
        exact ⟨rfl, h5⟩
      | some B =>
        rw [hb] at h4
        obtain ⟨h5, h6, c, ty, fz, h7, h8, h9, h10⟩ := h4
        refine ⟨by simpa using h5, h6, c, ty, fz, h7, h8, h9, fun i el j x hi hj => ?_⟩
        rw [List.getElem?_map, Option.map_eq_some_iff] at hi
        obtain ⟨u, hu, rfl⟩ := hi
        rw [List.getElem?_map, Option.map_eq_some_iff] at hj
        obtain ⟨y, hy, rfl⟩ := hj
        obtain ⟨cv, h11, h12⟩ := h10 i u j y hu hy
        exact ⟨cv, h11, RC.mv hs hg h12⟩

omit hg in
/-- Where an entry comes from. -/
theorem putAt_from {id : Nat} {e : Ent} (he : (putAt mA mk s)[id]? = some e) : (mA ++ mk)[if s ≤ id ∧ id < s + mk.length then mA.length + (id - s) else id]? = some e := by
  split
  · rename_i hin
    have h1 := putAt_new (l := mA) (xs := mk) (s := s) (i := id - s) hs (by omega)
    rw [show s + (id - s) = id by omega] at h1
    rw [List.getElem?_append_right (by omega), Nat.add_sub_cancel_left, ← h1]
    exact he
  · rename_i hout
    have hlt := (List.getElem?_eq_some_iff.1 he).1
    rw [putAt_len hs] at hlt
    rw [putAt_old hs (by omega)] at he
    rw [List.getElem?_append_left hlt]
    exact he

theorem RS.put {hA hk : List O} (hr : RS J (hA ++ hk) (mA ++ mk) w) (hl1 : hA.length = mA.length) (hl2 : hk.length = mk.length) :
    RS J (putAt (hA.map (O.mv mA.length s)) (hk.map (O.mv mA.length s)) s) (putAt mA mk s) w := by
  have hlen : (putAt (hA.map (O.mv mA.length s)) (hk.map (O.mv mA.length s)) s).length = hA.length := by
    rw [putAt_len (by simp; omega)]; simp
  refine ⟨by rw [putAt_len hs, hlen, hl1], hr.jlt, fun id e B h1 h2 => hr.dis _ e B (putAt_from hs h1) h2, fun id id' e e' B h1 h2 h3 h4 => ?_, fun id e o h1 h2 => ?_⟩
  · have h5 := hr.inj _ _ e e' B (putAt_from hs h1) (putAt_from hs h2) h3 h4
    have g1 := (List.getElem?_eq_some_iff.1 h1).1
    have g2 := (List.getElem?_eq_some_iff.1 h2).1
    rw [putAt_len hs] at g1 g2
    split at h5 <;> split at h5 <;> omega
  · have g1 := (List.getElem?_eq_some_iff.1 h1).1
    rw [putAt_len hs] at g1
    by_cases hin : s ≤ id ∧ id < s + mk.length
    · have h3 := putAt_from hs h1
      rw [if_pos hin] at h3
      have h4 := putAt_new (l := hA.map (O.mv mA.length s)) (xs := hk.map (O.mv mA.length s)) (s := s) (i := id - s) (by simp; omega) (by simp; omega)
      rw [show s + (id - s) = id by omega, h2, List.getElem?_map] at h4
      obtain ⟨o', h5, rfl⟩ := Option.map_eq_some_iff.1 h4.symm
      refine RO.mv hs hg (hr.obj _ e o' h3 ?_)
      rw [List.getElem?_append_right (by omega), ← h5]
      congr 1; omega
    · have h3 := putAt_from hs h1
      rw [if_neg hin] at h3
      rw [putAt_old (by simp; omega) (by simp; omega), List.getElem?_map] at h2
      obtain ⟨o', h5, rfl⟩ := Option.map_eq_some_iff.1 h2
      refine RO.mv hs hg (hr.obj _ e o' h3 ?_)
      rw [List.getElem?_append_left (by omega), h5]

end fill

theorem Ev.put {n : Nat} {J J' : Nat → Prop} {m : List Ent} {w w' : World} {mA mk : List Ent} {s : Nat} (hs : s + mk.length ≤ mA.length) (hm : m.length ≤ s) (hev : Ev n J m w J' (mA ++ mk) w') : Ev n J m w J' (putAt mA mk s) w' where
  os := hev.os
  tape := hev.tape
  output := hev.output
  drawn := hev.drawn
  size := hev.size
  keep := hev.keep
  fresh := fun id e B h1 h2 => hev.fresh _ e B (putAt_from hs h1) h2
  sub := hev.sub
  jnew := hev.jnew
  ents := fun id e hn h1 => by
    have hlt := (List.getElem?_eq_some_iff.1 h1).1
    obtain ⟨e', h2, h3⟩ := hev.ents id e hn h1
    refine ⟨e', ?_, h3⟩
    rw [putAt_old hs (by omega)]
    rw [List.getElem?_append_left (by omega)] at h2
    exact h2

/-- Places are kept. -/
theorem RS.pad {h : List O} {m : List Ent} (hr : RS J h m w) (k : Nat) : RS J (h ++ List.replicate k .dead) (m ++ List.replicate k ⟨0, 0, none, 0, 0⟩) w := by
  have hfrom : ∀ (id : Nat) (e : Ent) (B : Nat), (m ++ List.replicate k (⟨0, 0, none, 0, 0⟩ : Ent))[id]? = some e → e.blk = some B → m[id]? = some e := by
    intro id e B h1 h2
    by_cases hlt : id < m.length
    · rw [List.getElem?_append_left hlt] at h1; exact h1
    · rw [List.getElem?_append_right (by omega), List.getElem?_replicate] at h1
      split at h1
      · simp at h1; subst h1; simp at h2
      · simp at h1
  refine ⟨by simp [hr.len], hr.jlt, fun id e B h1 h2 => hr.dis id e B (hfrom id e B h1 h2) h2, fun id id' e e' B h1 h2 h3 h4 => hr.inj id id' e e' B (hfrom _ _ B h1 h3) (hfrom _ _ B h2 h4) h3 h4, fun id e o h1 h2 => ?_⟩
  by_cases hlt : id < m.length
  · rw [List.getElem?_append_left hlt] at h1
    rw [List.getElem?_append_left (by rw [← hr.len]; exact hlt)] at h2
    exact RO.mono (fun _ h => h) (fun _ _ => rfl) (Ml.app m _) (fun _ _ => rfl) (hr.obj id e o h1 h2)
  · rw [List.getElem?_append_right (by rw [← hr.len]; omega), List.getElem?_replicate] at h2
    split at h2
    · simp at h2; subst h2; trivial
    · simp at h2

theorem Ev.pad {n : Nat} {J J' : Nat → Prop} {m m' : List Ent} {w w' : World} (hev : Ev n J m w J' m' w') (k : Nat) : Ev n J m w J' (m' ++ List.replicate k ⟨0, 0, none, 0, 0⟩) w' where
  os := hev.os
  tape := hev.tape
  output := hev.output
  drawn := hev.drawn
  size := hev.size
  keep := hev.keep
  fresh := fun id e B h1 h2 => by
    by_cases hlt : id < m'.length
    · rw [List.getElem?_append_left hlt] at h1; exact hev.fresh id e B h1 h2
    · rw [List.getElem?_append_right (by omega), List.getElem?_replicate] at h1
      split at h1
      · simp at h1; subst h1; simp at h2
      · simp at h1
  sub := hev.sub
  jnew := hev.jnew
  ents := fun id e hn h1 => by
    obtain ⟨e', h2, h3⟩ := hev.ents id e hn h1
    exact ⟨e', by rw [List.getElem?_append_left (List.getElem?_eq_some_iff.1 h2).1]; exact h2, h3⟩
end
end Go.Abs
