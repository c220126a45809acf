/- Objects of the call's own that are handed to a function for good: from then on they are held by value. -/
import Derived.Test.YtoppidobgkgiiaaAbsZ
set_option linter.unusedVariables false
set_option linter.unusedSimpArgs false
namespace Go.Abs
open Go.RowKit

def BlksI (m : List Ent) (ids : List Nat) (k : Nat) : Prop := ∃ id, id ∈ ids ∧ ∃ e : Ent, m[id]? = some e ∧ e.blk = some k
def killL (h : List O) (ids : List Nat) : List O := ids.foldl (fun h id => h.set id .dead) h

section
variable {P : Program} {J : Nat → Prop} {m : List Ent} {w : World} {h : List O}

theorem frz0_okI (hr : RS J h m w) {v r : V} (hf : frz0 h v = some r) {c : Value} (hv : RC J m w v c) : RC (fun k => J k ∨ BlksI m v.ids0 k) [] w r c := by
  have hsub : ∀ k, J k → (fun k => J k ∨ BlksI m v.ids0 k) k := fun k hk => .inl hk
  cases v <;> simp only [frz0] at hf <;> try (simp at hf; done)
  case own id g off len =>
    split at hf
    case h_2 => simp at hf
    rename_i g' sz els ho
    split at hf
    case isFalse => simp at hf
    rename_i hcond
    obtain ⟨rfl, hle, hd⟩ := hcond
    obtain rfl := Option.some.inj hf
    have he : elsOf sz h (.own id g off len) = some ((els.drop off).take len) := by simp [elsOf, ho, hle]
    obtain ⟨a, cap, hx, h1, h2, h3, h4⟩ := slice_shape hr (RV_of_RC hv) he
    have hv' := own_ok hr (RV_of_RC hv) ho
    obtain ⟨en, hen, _, _, hsl, _⟩ := hv'
    subst hx
    cases a with
    | none =>
      obtain ⟨h5, h6⟩ := h2 rfl
      have : (els.drop off).take len = [] := List.eq_nil_of_length_eq_zero h5
      rw [this]; subst h6
      exact RD.l0 sz
    | some a =>
      obtain ⟨cs, h5, h6⟩ := h4 a rfl
      have hdd : ∀ (i : Nat) (el : List V) (j : Nat) (x : V), ((els.drop off).take len)[i]? = some el → el[j]? = some x → x.isD = true := by
        intro i el j x q1 q2
        have q3 := List.all_eq_true.1 hd el (List.mem_of_getElem? q1)
        exact List.all_eq_true.1 q3 x (List.mem_of_getElem? q2)
      by_cases h0 : ((els.drop off).take len).length = 0
      · have : (els.drop off).take len = [] := List.eq_nil_of_length_eq_zero h0
        rw [this]
        exact RD.l1 sz a cap
      · have hb : BlksI m [id] a.block := by
          unfold Ent.sl at hsl
          cases hbk : en.blk with
          | none =>
            rw [hbk] at hsl
            obtain ⟨_, _, q3⟩ := hsl
            exfalso
            rcases q3 with q3 | ⟨_, q3⟩ <;> simp at q3
            rw [List.length_take, List.length_drop] at h0
            omega
          | some B =>
            rw [hbk] at hsl
            obtain ⟨o, cc, q3, _⟩ := hsl
            simp only [Value.slice.injEq, Option.some.injEq] at q3
            exact ⟨id, by simp, en, hen, by rw [hbk, q3.1]⟩
        exact RD.l sz _ a cap cs (.inr hb) h1 h3 h5 (fun i el j v q1 q2 => (RD_of_RC (hdd i el j v q1 q2) (h6 i el j v q1 q2)).mono (fun k hk => .inl hk) (fun _ _ => rfl))
  all_goals
    obtain rfl := Option.some.inj hf
    first
    | exact hv
    | exact (show RD J w _ c from hv).mono (fun k hk => .inl hk) (fun _ _ => rfl)

theorem frz_okI (hr : RS J h m w) {v r : V} (hf : frz h v = some r) {c : Value} (hv : RV J m w v c) : RA (fun k => J k ∨ BlksI m v.ids2 k) [] w r c := by
  cases v
  case a cs =>
    simp only [frz, Option.map_eq_some_iff] at hf
    obtain ⟨rs, hrs, rfl⟩ := hf
    obtain ⟨arr, rfl, hp⟩ := hv
    refine ⟨arr, rfl, ?_⟩
    have : ∀ (vs rs : List V) (cl : List Value), vs.mapM (frz0 h) = some rs → Pw (RC J m w) vs cl → (∀ x ∈ vs, x ∈ cs) → Pw (RC (fun k => J k ∨ BlksI m (V.a cs).ids2 k) [] w) rs cl := by
      intro vs
      induction vs with
      | nil =>
        intro rs cl h1 h2 _
        simp at h1; subst h1
        have := h2.1
        simp at this
        obtain rfl := List.eq_nil_of_length_eq_zero this.symm
        exact Pw.nil
      | cons v vs ih =>
        intro rs cl h1 h2 h3
        simp only [List.mapM_cons, Option.bind_eq_bind, Option.bind_eq_some_iff, Option.pure_def, Option.some.injEq] at h1
        obtain ⟨u, hu, us, hus, rfl⟩ := h1
        cases cl with
        | nil => have := h2.1; simp at this
        | cons c cl =>
          refine Pw.cons ?_ (ih us cl hus h2.tail (fun x hx => h3 x (by simp [hx])))
          have h4 := frz0_okI hr hu h2.head
          refine RC.mono (m := []) (m' := []) (w := w) (w' := w) (fun k hk => ?_) (fun _ _ => rfl) (Ml.refl _) h4
          rcases hk with hk | ⟨id, hid, e, he⟩
          · exact .inl hk
          · refine .inr ⟨id, ?_, e, he⟩
            show id ∈ (cs.flatMap V.ids1)
            rw [List.mem_flatMap]
            refine ⟨v, h3 v (by simp), ?_⟩
            cases v <;> first | exact hid | (simp [V.ids0] at hid; done)
    exact this cs rs arr.toList hrs hp (fun x hx => hx)
  case t => simp [frz, frz0] at hf
  case any =>
    have hf' : frz0 h .any = some r := hf
    simp only [frz0, Option.some.injEq] at hf'
    subst hf'
    trivial
  case f => simp [frz, frz0] at hf
  case b x => exact RA_of_RC (frz0_okI (v := .b x) hr hf hv)
  case i k n => exact RA_of_RC (frz0_okI (v := .i k n) hr hf hv)
  case s x => exact RA_of_RC (frz0_okI (v := .s x) hr hf hv)
  case nil => exact RA_of_RC (frz0_okI (v := .nil) hr hf hv)
  case l sz els => exact RA_of_RC (frz0_okI (v := .l sz els) hr hf hv)
  case own id g off len => exact RA_of_RC (frz0_okI (v := .own id g off len) hr hf hv)
  case p id g e j => exact RA_of_RC (frz0_okI (v := .p id g e j) hr hf hv)
  case ip cs => exact RA_of_RC (frz0_okI (v := .ip cs) hr hf hv)
  case np => exact RA_of_RC (frz0_okI (v := .np) hr hf hv)
  case mp id => exact RA_of_RC (frz0_okI (v := .mp id) hr hf hv)
  case mnil => exact RA_of_RC (frz0_okI (v := .mnil) hr hf hv)

theorem Ml.trans {m m1 m2 : List Ent} (h1 : Ml m m1) (h2 : Ml m1 m2) : Ml m m2 := by
  intro id e he
  obtain ⟨e1, h3, h4, h5⟩ := h1 id e he
  obtain ⟨e2, h6, h7, h8⟩ := h2 id e1 h3
  refine ⟨e2, h6, Nat.le_trans h4 h7, fun hh => ?_⟩
  have : e1 = e := h5 (by omega)
  subst this
  exact h8 hh

theorem kill1 (hr : RS J h m w) {id : Nat} {en : Ent} (hen : m[id]? = some en) (hg : 1 ≤ en.gen) :
    RS (fun k => J k ∨ en.blk = some k) (h.set id .dead) (m.set id ⟨en.gen + 1, en.sz, none, 0, 0⟩) w ∧ (∀ n, Ev n J m w (fun k => J k ∨ en.blk = some k) (m.set id ⟨en.gen + 1, en.sz, none, 0, 0⟩) w) ∧ Ml m (m.set id ⟨en.gen + 1, en.sz, none, 0, 0⟩) := by
  have hidm : id < m.length := (List.getElem?_eq_some_iff.1 hen).1
  generalize he' : (⟨en.gen + 1, en.sz, none, 0, 0⟩ : Ent) = e'
  have g1 : en.gen ≤ e'.gen := by rw [← he']; simp
  have g2 : en.gen = e'.gen ∨ en.gen = 0 → e' = en := by
    intro hh
    have h1' : e'.gen = en.gen + 1 := by rw [← he']
    omega
  have hb' : e'.blk = none := by rw [← he']
  have hrs1 : RS J (h.set id .dead) (m.set id e') w := RS.upd hr e' .dead hen g1 g2 (fun B' hB' => by rw [hb'] at hB'; simp at hB') (fun _ _ _ => rfl) (Nat.le_refl _) trivial
  have hne : ∀ (i : Nat) (x : Ent) (B : Nat), (m.set id e')[i]? = some x → x.blk = some B → en.blk ≠ some B := by
    intro i x B hx hxB hB
    by_cases hi : id = i
    · subst hi
      rw [List.getElem?_set_self hidm] at hx
      obtain rfl := Option.some.inj hx
      rw [hb'] at hxB; simp at hxB
    · rw [List.getElem?_set_ne hi] at hx
      exact hi (hr.inj i id x en B hx hen hxB hB).symm
  refine ⟨?_, fun q => ?_, Ml.set hen g1 g2⟩
  · refine ⟨hrs1.len, fun k hk => ?_, fun i x B' hx hB' => ⟨?_, (hrs1.dis i x B' hx hB').2⟩, hrs1.inj, fun i x o hx hO => RO.mono (fun _ h => .inl h) (fun _ _ => rfl) (Ml.refl _) (fun _ _ => rfl) (hrs1.obj i x o hx hO)⟩
    · rcases hk with hk | hk
      · exact hr.jlt k hk
      · exact (hr.dis id en k hen hk).2
    · rintro (hj | hj)
      · exact (hrs1.dis i x B' hx hB').1 hj
      · exact hne i x B' hx hB' hj
  · refine ⟨rfl, rfl, rfl, Nat.le_refl _, Nat.le_refl _, fun _ _ _ => rfl, fun i x B' hx hB' => ?_, fun _ h => .inl h, fun k hk => ?_, fun i x _ hx => Ml.set hen g1 g2 i x hx⟩
    · by_cases hi : id = i
      · subst hi
        rw [List.getElem?_set_self hidm] at hx
        obtain rfl := Option.some.inj hx
        rw [hb'] at hB'; simp at hB'
      · rw [List.getElem?_set_ne hi] at hx
        exact .inr ⟨i, x, hx, hB'⟩
    · rcases hk with hk | hk
      · exact .inl hk
      · exact .inr (.inr ⟨id, en, hen, hk⟩)

theorem kill_rs : ∀ (ids : List Nat) {J : Nat → Prop} {h : List O} {m : List Ent}, RS J h m w → (∀ id ∈ ids, ∃ e : Ent, m[id]? = some e ∧ 1 ≤ e.gen) →
    ∃ m', RS (fun k => J k ∨ BlksI m ids k) (killL h ids) m' w ∧ (∀ n, Ev n J m w (fun k => J k ∨ BlksI m ids k) m' w) ∧ Ml m m'
  | [], J, h, m, hr, _ => by
    have e : (fun k => J k ∨ BlksI m [] k) = J := by
      funext k; simp [BlksI]
    rw [e]
    exact ⟨m, hr, fun n => Ev.refl n J m w, Ml.refl m⟩
  | id :: ids, J, h, m, hr, hids => by
    obtain ⟨en, hen, hg⟩ := hids id (by simp)
    have hidm : id < m.length := (List.getElem?_eq_some_iff.1 hen).1
    obtain ⟨k1, k2, k3⟩ := kill1 hr hen hg
    obtain ⟨m', h1, h2, h3⟩ := kill_rs ids k1 (fun i hi => by
      by_cases hii : id = i
      · subst hii
        exact ⟨_, List.getElem?_set_self hidm, by simp⟩
      · obtain ⟨e, he, hge⟩ := hids i (by simp [hi])
        exact ⟨e, by rw [List.getElem?_set_ne hii]; exact he, hge⟩)
    have e : (fun k => (J k ∨ en.blk = some k) ∨ BlksI (m.set id ⟨en.gen + 1, en.sz, none, 0, 0⟩) ids k) = (fun k => J k ∨ BlksI m (id :: ids) k) := by
      funext k
      apply propext
      constructor
      · rintro ((hk | hk) | ⟨i, hi, e, he, hb⟩)
        · exact .inl hk
        · exact .inr ⟨id, by simp, en, hen, hk⟩
        · by_cases hii : id = i
          · subst hii
            rw [List.getElem?_set_self hidm] at he
            obtain rfl := Option.some.inj he
            simp at hb
          · rw [List.getElem?_set_ne hii] at he
            exact .inr ⟨i, by simp [hi], e, he, hb⟩
      · rintro (hk | ⟨i, hi, e, he, hb⟩)
        · exact .inl (.inl hk)
        · by_cases hii : id = i
          · subst hii
            obtain rfl := Option.some.inj (hen.symm.trans he)
            exact .inl (.inr hb)
          · simp at hi
            rcases hi with rfl | hi
            · exact absurd rfl hii
            · exact .inr ⟨i, hi, e, by rw [List.getElem?_set_ne hii]; exact he, hb⟩
    rw [e] at h1 h2
    exact ⟨m', h1, fun n => (k2 n).trans (h2 n), k3.trans h3⟩

/-- The objects that are handed over are held by value from then on. -/
theorem ACall_freeze {f : FuncId} {us vs : List V} {h : List O} {R : V → List O → Prop} (hu : frzAll h us = some vs) (hk : ACall P f vs (killL h (us.flatMap V.ids2)) R) : ACall P f us h R := by
  intro J m w cargs hr hp
  have hids : ∀ id ∈ us.flatMap V.ids2, ∃ e : Ent, m[id]? = some e ∧ 1 ≤ e.gen := by
    intro id hid
    rw [List.mem_flatMap] at hid
    obtain ⟨v, hv, hid⟩ := hid
    obtain ⟨i, hi⟩ := List.getElem?_of_mem hv
    obtain ⟨c, _, hc⟩ := hp.get hi
    exact ids2_rel hc hid
  obtain ⟨m', h1, h2, h3⟩ := kill_rs (us.flatMap V.ids2) hr hids
  have hvs : Pw (RV (fun k => J k ∨ BlksI m (us.flatMap V.ids2) k) m' w) vs cargs := by
    have : ∀ (us' vs' : List V) (cl : List Value), us'.mapM (frz h) = some vs' → Pw (RV J m w) us' cl → (∀ x ∈ us', x ∈ us) → Pw (RV (fun k => J k ∨ BlksI m (us.flatMap V.ids2) k) m' w) vs' cl := by
      intro us'
      induction us' with
      | nil =>
        intro vs' cl q1 q2 _
        simp at q1; subst q1
        have := q2.1
        simp at this
        obtain rfl := List.eq_nil_of_length_eq_zero this.symm
        exact Pw.nil
      | cons v us' ih =>
        intro vs' cl q1 q2 q3
        simp only [List.mapM_cons, Option.bind_eq_bind, Option.bind_eq_some_iff, Option.pure_def, Option.some.injEq] at q1
        obtain ⟨u, hu, us'', hus, rfl⟩ := q1
        cases cl with
        | nil => have := q2.1; simp at this
        | cons c cl =>
          refine Pw.cons ?_ (ih us'' cl hus q2.tail (fun x hx => q3 x (by simp [hx])))
          have h4 := frz_okI hr hu q2.head
          refine RV_of_RA (RA.mono (m := []) (m' := m') (w := w) (w' := w) (fun k hk => ?_) (fun _ _ => rfl) (Ml.nil _) h4)
          rcases hk with hk | ⟨id, hid, e, he⟩
          · exact .inl hk
          · exact .inr ⟨id, List.mem_flatMap.2 ⟨v, q3 v (by simp), hid⟩, e, he⟩
    exact this us vs cargs hu hp (fun x hx => hx)
  refine (hk _ m' w cargs h1 hvs).mono fun e w' hh => ?_
  obtain ⟨v, r, h', J', m'', q1, q2, q3, q4, q5, q6⟩ := hh
  exact ⟨v, r, h', J', m'', q1, q2, q3, q4, fun n => (h2 n).trans (q5 n), h3.trans q6⟩

theorem ACall_frz {f : FuncId} {us vs : List V} {h : List O} {r : V} {k : V → List O → Prop} (hu : frzAll h us = some vs) (hc : CallIs P f vs r) (hk : k r (killL h (us.flatMap V.ids2))) : ACall P f us h k :=
  ACall_freeze hu ((hc _).mono fun r' h' hh => by rw [hh.1, hh.2]; exact hk)

/-- A result that is nil is seen as an object without cells. -/
theorem ACall_ghost {f : FuncId} {vs : List V} {h : List O} (sz : Nat) {R : V → List O → Prop} (hc : ACall P f vs h (fun r h' => R r h' ∨ (r = .nil ∧ R (.own h'.length 1 0 0) (h' ++ [.arr 1 sz []])))) : ACall P f vs h R := by
  intro J m w cargs hr hp
  refine (hc J m w cargs hr hp).mono fun e w' hh => ?_
  obtain ⟨v, r, h', J', m', q1, q2, q3, q4, q5, q6⟩ := hh
  rcases q2 with q2 | ⟨rfl, q2⟩
  · exact ⟨v, r, h', J', m', q1, q2, q3, q4, q5, q6⟩
  · obtain ⟨g1, g2, g3⟩ := fine_noblk q4 sz
    refine ⟨v, _, _, J', _, q1, q2, ?_, g1, fun n => (q5 n).trans (g2 n), q6.trans g3⟩
    have h5 : RD J' w' .nil v := q3
    refine ⟨h5.one, ⟨1, sz, none, 0, 0⟩, by rw [← q4.len]; exact get_last _ _, ⟨Nat.le_refl _, Nat.le_refl _⟩, fun _ => ⟨rfl, rfl, ?_⟩⟩
    cases h5 with
    | nil0 => exact .inl rfl
    | nil1 a => exact .inr ⟨a, rfl⟩
end
theorem killL_nil (h : List O) : killL h [] = h := _root_.id rfl
theorem killL_cons (h : List O) (id : Nat) (ids : List Nat) : killL h (id :: ids) = killL (h.set id .dead) ids := _root_.id rfl
attribute [go_sem] killL_nil killL_cons V.ids2 V.ids1 V.ids0
end Go.Abs
