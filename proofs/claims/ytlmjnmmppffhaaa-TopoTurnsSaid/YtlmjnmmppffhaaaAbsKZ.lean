/- Part of the abstract machine on which the proof stands: its values, code and their soundness against the model. -/
import Derived.Test.YtlmjnmmppffhaaaAbsK
import Derived.Maps.RangeRun
set_option linter.unusedVariables false
set_option linter.unusedSimpArgs false
namespace Go.Abs
open Go.RowKit

/-- The kinds of a key's cells; a struct or an array has not just one. -/
def keyKs (P : Program) (T : TypeId) : Option (List Nat) :=
  match flatK P 20 T with
  | some ks => match P.underlying T with
    | some (.struct _) | some (.array _ _) => if ks.length = 1 then none else some ks
    | _ => some ks
  | none => none

/-- A type's zero value. -/
def zV (P : Program) (T : TypeId) : Option V := (P.info? T).bind fun i => i.zero.bind fun z => match z with
  | .agg cs => (cs.toList.mapM cvL).map .a
  | v => cvL v

section
variable {P : Program} {J : Nat → Prop} {m : List Ent} {w : World} {h : List O}

theorem ckFs_ok {d n : Nat} (em : Bool) (ih : ∀ T ks, flatK P d T = some ks → ∀ cx : List Value, cx.length = ks.length → (Instr.checkKey em n T (mkT P T cx)).run P w = .ok () w) {cs : Array Value} :
    ∀ (fs : List Field) (acc : Nat) (ks : List Nat), flatFs P (flatK P d) fs acc = some ks → acc + ks.length ≤ cs.size →
      (forIn fs PUnit.unit (fun f (_ : PUnit) => if f.name ≠ "_" then do
          let a ← part f.type cs f.offset
          Instr.checkKey em n f.type a
          pure (ForInStep.yield PUnit.unit)
        else pure (ForInStep.yield PUnit.unit) : Field → PUnit → Sem (ForInStep PUnit))).run P w = .ok PUnit.unit w
  | [], _, _, _, _ => by simp
  | f :: fs, acc, ks, hf, hl => by
    simp only [flatFs] at hf
    split at hf
    case isTrue => simp at hf
    rename_i hno
    simp only [not_or, Decidable.not_not] at hno
    split at hf
    case h_2 => simp at hf
    rename_i k1 hk1
    split at hf
    case isFalse => simp at hf
    rename_i hsz
    simp only [Option.map_eq_some_iff] at hf
    obtain ⟨k2, hk2, rfl⟩ := hf
    have hlen : (k1 ++ k2).length = k1.length + k2.length := by simp
    have hp := run_part_mk (w := w) hk1 hsz (cs := cs) (off := f.offset) (by rw [hno.2]; omega)
    have hc := ih f.type k1 hk1 ((cs.toList.drop f.offset).take k1.length) (by rw [hno.2]; simp; omega)
    have hrest := ckFs_ok em ih (cs := cs) fs (acc + k1.length) k2 hk2 (by omega)
    have hn : f.name ≠ "_" := hno.1
    simp only [List.forIn_cons, hn, ne_eq, not_false_eq_true, if_true, Sem.run_bind, hp, Result.andThen_ok, hc, Sem.run_pure]
    simpa using hrest

theorem ckArr_ok {d n : Nat} (em : Bool) {e : TypeId} {ks : List Nat} (hk : flatK P d e = some ks) (hsz : (P.info? e).map (·.size) = some ks.length)
    (ih : ∀ T ks, flatK P d T = some ks → ∀ cx : List Value, cx.length = ks.length → (Instr.checkKey em n T (mkT P T cx)).run P w = .ok () w) {cs : Array Value} :
    ∀ (k i : Nat), (i + k) * ks.length ≤ cs.size →
      (forIn (List.range' i k) PUnit.unit (fun i (_ : PUnit) => (do
          let s ← sizeOf e
          let a ← part e cs (i * s)
          Instr.checkKey em n e a
          pure (ForInStep.yield PUnit.unit) : Sem (ForInStep PUnit)))).run P w = .ok PUnit.unit w
  | 0, _, _ => by simp
  | k + 1, i, hl => by
    have h1 : (i + (k + 1)) * ks.length = i * ks.length + ks.length + k * ks.length := by rw [Nat.add_mul, Nat.add_mul]; omega
    have hp := run_part_mk (w := w) hk hsz (cs := cs) (off := i * ks.length) (by omega)
    have hc := ih e ks hk ((cs.toList.drop (i * ks.length)).take ks.length) (by simp; omega)
    have hrest := ckArr_ok em hk hsz ih k (i + 1) (by rw [show i + 1 + k = i + (k + 1) by omega]; exact hl)
    simp only [List.range'_succ, List.forIn_cons, Sem.run_bind, run_sizeOf' hsz, Result.andThen_ok, hp, hc, Sem.run_pure, hrest]

theorem flatFs_len {g : TypeId → Option (List Nat)} : ∀ {fs : List Field} {acc : Nat} {ks : List Nat}, flatFs P g fs acc = some ks → True := fun _ => trivial

theorem ck_ok : ∀ (d : Nat) (em : Bool) (n : Nat), d < n → ∀ T ks, flatK P d T = some ks → ∀ cx : List Value, cx.length = ks.length → (Instr.checkKey em n T (mkT P T cx)).run P w = .ok () w
  | 0, _, _, _, T, ks, hf, _, _ => by simp [flatK] at hf
  | d + 1, em, n, hn, T, ks, hf, cx, hl => by
    obtain ⟨n, rfl⟩ : ∃ n', n = n' + 1 := ⟨n - 1, by omega⟩
    have ih := ck_ok d em n (by omega)
    simp only [flatK] at hf
    split at hf <;> rename_i hu
    · generalize mkT P T cx = v
      simp only [Instr.checkKey, Sem.run_bind, run_underlying hu, Result.andThen_ok]
      cases v <;> rfl
    · generalize mkT P T cx = v
      simp only [Instr.checkKey, Sem.run_bind, run_underlying hu, Result.andThen_ok]
      cases v <;> rfl
    · generalize mkT P T cx = v
      simp only [Instr.checkKey, Sem.run_bind, run_underlying hu, Result.andThen_ok]
      cases v <;> rfl
    · rename_i fs
      split at hf
      case isTrue => simp at hf
      have h1 := ckFs_ok (P := P) (w := w) (d := d) (n := n) em ih (cs := cx.toArray) fs.toList 0 ks hf (by simpa using Nat.le_of_eq hl.symm)
      simp only [mkT, hu, Instr.checkKey, Sem.run_bind, run_underlying hu, Result.andThen_ok, ← Array.forIn_toList, h1, Sem.run_pure]
    · rename_i k e
      split at hf
      case h_2 => simp at hf
      rename_i k1 hk1
      split at hf
      case isFalse => simp at hf
      rename_i hsz
      obtain rfl := Option.some.inj hf
      have h1 := ckArr_ok (P := P) (w := w) (d := d) (n := n) em hk1 hsz ih (cs := cx.toArray) k 0 (by simp at hl; simp [hl])
      simp only [mkT, hu, Instr.checkKey, Sem.run_bind, run_underlying hu, Result.andThen_ok, Std.Legacy.Range.forIn_eq_forIn_range', Std.Legacy.Range.size]
      simp only [Nat.sub_zero, Nat.add_sub_cancel, Nat.div_one, h1, Result.andThen_ok, Sem.run_pure]
    · simp at hf

theorem keyKs_some {T : TypeId} {ks : List Nat} (hk : keyKs P T = some ks) : flatK P 20 T = some ks ∧
    ((((∃ fs, P.underlying T = some (.struct fs)) ∨ ∃ n e, P.underlying T = some (.array n e)) ∧ ks.length ≠ 1) ∨ ((¬ ((∃ fs, P.underlying T = some (.struct fs)) ∨ ∃ n e, P.underlying T = some (.array n e))) ∧ ks.length = 1)) := by
  unfold keyKs at hk
  split at hk
  case h_2 => simp at hk
  rename_i ks' hf
  rcases flatK_agg hf with ⟨fs, hu⟩ | ⟨n, e, hu⟩ | ⟨hu, rfl⟩ | ⟨k, hu, rfl⟩ | ⟨hu, rfl⟩
  · simp only [hu] at hk
    split at hk
    case isTrue => simp at hk
    rename_i h1
    obtain rfl := Option.some.inj hk
    exact ⟨hf, .inl ⟨.inl ⟨fs, hu⟩, h1⟩⟩
  · simp only [hu] at hk
    split at hk
    case isTrue => simp at hk
    rename_i h1
    obtain rfl := Option.some.inj hk
    exact ⟨hf, .inl ⟨.inr ⟨n, e, hu⟩, h1⟩⟩
  all_goals
    simp only [hu] at hk
    obtain rfl := Option.some.inj hk
    exact ⟨hf, .inr ⟨by simp [hu], rfl⟩⟩

/-- A key's value, by its cells. -/
theorem key_mk {T : TypeId} {ks : List Nat} (hk : keyKs P T = some ks) {X : V} {x : Value} (hx : RV J m w X x) (hs : kshape ks X = true) (hl : X.cells.length = ks.length) :
    ∃ cx : List Value, x = mkT P T cx ∧ Pw (RC J m w) X.cells cx := by
  obtain ⟨_, h2⟩ := keyKs_some hk
  have hok : X.okA = true := by cases X <;> simp [kshape] at hs <;> rfl
  have hcells := cells_ok hx hok
  cases X
  case a cs =>
    obtain ⟨arr, rfl, hp⟩ := hx
    simp only [kshape, Bool.not_eq_true', beq_eq_false_iff_ne] at hs
    rcases h2 with ⟨h3, _⟩ | ⟨_, h3⟩
    · refine ⟨arr.toList, ?_, hp⟩
      rcases h3 with ⟨fs, hu⟩ | ⟨n, e, hu⟩ <;> simp [mkT, hu]
    · exact absurd h3 hs
  all_goals
    first
    | (simp [kshape] at hs; done)
    | (simp only [kshape, beq_iff_eq] at hs
       rcases h2 with ⟨_, h3⟩ | ⟨h3, _⟩
       · exact absurd hs h3
       · refine ⟨[x], ?_, ?_⟩
         · unfold mkT
           split
           · rename_i hu; exact absurd (.inl ⟨_, hu⟩) h3
           · rename_i hu; exact absurd (.inr ⟨_, _, hu⟩) h3
           · rfl
         · refine ⟨rfl, fun i v c h4 h5 => ?_⟩
           cases i with
           | zero =>
             simp [V.cells] at h4 h5
             subst h4; subst h5
             exact hx
           | succ i => simp at h5)

theorem veq_eq : ∀ {ks : List Nat} {xs ys : List V} {cx cy : List Value}, veqL ks xs ys = some true → Pw (RC J m w) xs cx → Pw (RC J m w) ys cy →
    cx = cy ∧ ∀ c ∈ cx, ∀ n, Instr.sameBits (n + 1) c c = true
  | [], [], [], cx, cy, _, hx, hy => by
    have h1 := hx.1; have h2 := hy.1
    simp at h1 h2
    obtain rfl := List.eq_nil_of_length_eq_zero h1.symm
    obtain rfl := List.eq_nil_of_length_eq_zero h2.symm
    exact ⟨rfl, by simp⟩
  | [], [], _ :: _, _, _, h, _, _ => by simp [veqL] at h
  | [], _ :: _, _, _, _, h, _, _ => by simp [veqL] at h
  | _ :: _, [], _, _, _, h, _, _ => by simp [veqL] at h
  | _ :: _, _ :: _, [], _, _, h, _, _ => by simp [veqL] at h
  | k :: ks, x :: xs, y :: ys, cx, cy, h, hx, hy => by
    simp only [veqL] at h
    split at h
    case h_2 => simp at h
    rename_i a b ha hb
    have hab := Option.some.inj h
    simp only [Bool.and_eq_true] at hab
    obtain ⟨rfl, rfl⟩ := hab
    match cx, cy, hx, hy with
    | [], _, hx, _ => have := hx.1; simp at this
    | _ :: _, [], _, hy => have := hy.1; simp at this
    | c :: cx, d :: cy, hx, hy =>
      obtain ⟨h1, h2⟩ := veq_eq hb hx.tail hy.tail
      have h3 := hx.head
      have h4 := hy.head
      have h5 : c = d ∧ ∀ n, Instr.sameBits (n + 1) c c = true := by
        cases x <;> cases y <;> simp [sceq] at ha
        · obtain ⟨_, rfl⟩ := ha
          obtain rfl := bool_of (RV_of_RC h3)
          obtain rfl := bool_of (RV_of_RC h4)
          exact ⟨rfl, fun n => by simp [Instr.sameBits]⟩
        · obtain ⟨⟨_, rfl⟩, rfl⟩ := ha
          obtain rfl := int_of (RV_of_RC h3)
          obtain rfl := int_of (RV_of_RC h4)
          exact ⟨rfl, fun n => by simp [Instr.sameBits]⟩
        · obtain ⟨_, rfl⟩ := ha
          obtain rfl := str_of (RV_of_RC h3)
          obtain rfl := str_of (RV_of_RC h4)
          exact ⟨rfl, fun n => by simp [Instr.sameBits, MapKept.bytes_beq]⟩
      obtain ⟨rfl, h6⟩ := h5
      subst h1
      refine ⟨rfl, fun c' hc' => ?_⟩
      simp at hc'
      rcases hc' with rfl | hc'
      · exact h6
      · exact h2 c' hc'

theorem keeps_ok {T : TypeId} {ks : List Nat} (hk : keyKs P T = some ks) {X Y : V} {x y : Value} (hx : RV J m w X x) (hy : RV J m w Y y) (h1 : kshape ks X = true) (h2 : kshape ks Y = true) (he : veqL ks X.cells Y.cells = some true) :
    y = x ∧ (Instr.keyThatStays y x).run P w = .ok x w := by
  obtain ⟨l1, l2⟩ := veqL_len he
  obtain ⟨cx, rfl, hcx⟩ := key_mk hk hx h1 l1
  obtain ⟨cy, rfl, hcy⟩ := key_mk hk hy h2 l2
  obtain ⟨rfl, hsb⟩ := veq_eq he hcx hcy
  refine ⟨rfl, ?_⟩
  have : Instr.sameBits 10000 (mkT P T cx) (mkT P T cx) = true := by
    have hall : Instr.sameBits 10000 (.agg cx.toArray) (.agg cx.toArray) = true := by
      rw [show (10000 : Nat) = 9999 + 1 from rfl]
      simp only [Instr.sameBits, beq_self_eq_true, Bool.true_and, List.all_eq_true]
      rintro ⟨a, b⟩ hab
      have hz : ∀ (l : List Value) (p : Value × Value), p ∈ l.zip l → p.1 = p.2 ∧ p.1 ∈ l := by
        intro l
        induction l with
        | nil => simp
        | cons z l ih =>
          intro p hp
          simp at hp
          rcases hp with rfl | hp
          · exact ⟨rfl, by simp⟩
          · obtain ⟨q1, q2⟩ := ih p hp
            exact ⟨q1, by simp [q2]⟩
      obtain ⟨q1, q2⟩ := hz _ _ hab
      simp only at q1 q2
      subst q1
      exact hsb a (by simpa using q2) 9998
    have hl : cx.length = ks.length := by rw [← hcx.1]; exact l1
    rcases keyKs_some hk with ⟨_, ⟨h3, _⟩ | ⟨h3, h4⟩⟩
    · rcases h3 with ⟨fs, hu⟩ | ⟨n, e, hu⟩ <;> simp only [mkT, hu] <;> exact hall
    · match cx, hl, hsb with
      | [c], _, hsb =>
        have : mkT P T [c] = c := by
          unfold mkT
          split
          · rename_i hu; exact absurd (.inl ⟨_, hu⟩) h3
          · rename_i hu; exact absurd (.inr ⟨_, _, hu⟩) h3
          · rfl
        rw [this]
        exact hsb c (by simp) 9999
      | [], hl, _ => simp at hl; omega
      | _ :: _ :: _, hl, _ => simp at hl; omega
  simp [Instr.keyThatStays, this]

/-- The entries of a map. -/
def EntsOk (J : Nat → Prop) (m : List Ent) (w : World) (ents : List (V × V)) (es : List MapEntry) : Prop :=
  es.length = ents.length ∧ ∀ (i : Nat) (k v : V), ents[i]? = some (k, v) → ∃ en : MapEntry, es[i]? = some en ∧ RA J m w k en.key ∧ RA J m w v en.val

theorem EntsOk.tail {k v : V} {ents : List (V × V)} {e : MapEntry} {es : List MapEntry} (h : EntsOk J m w ((k, v) :: ents) (e :: es)) : EntsOk J m w ents es :=
  ⟨by have := h.1; simpa using this, fun i k v hi => by simpa using h.2 (i + 1) k v (by simpa using hi)⟩

theorem fa_ok {T : TypeId} {ks : List Nat} (hk : keyKs P T = some ks) {X : V} {x : Value} (hx : RV J m w X x) : ∀ (ents : List (V × V)) (es : List MapEntry) (i : Nat) (res : Option (Nat × V)), EntsOk J m w ents es → findE ks X ents = some res →
    match res with
    | none => (Instr.findAsking T x es i).run P w = .ok none w
    | some (j, v) => ∃ en : MapEntry, es[j]? = some en ∧ RA J m w v en.val ∧ (Instr.findAsking T x es i).run P w = .ok (some (i + j, en.val)) w ∧ (∃ k, ents[j]? = some (k, v) ∧ kshape ks k = true ∧ kshape ks X = true ∧ veqL ks X.cells k.cells = some true)
  | [], [], i, res, _, hf => by
    simp only [findE] at hf
    split at hf
    case isFalse => simp at hf
    obtain rfl := Option.some.inj hf
    simp [Instr.findAsking]
  | [], _ :: _, _, _, he, _ => by have := he.1; simp at this
  | _ :: _, [], _, _, he, _ => by have := he.1; simp at this
  | (k, v) :: ents, e :: es, i, res, he, hf => by
    simp only [findE] at hf
    split at hf
    case isFalse => simp at hf
    rename_i hsh
    simp only [Bool.and_eq_true] at hsh
    obtain ⟨en, q1, q2, q3⟩ := he.2 0 k v rfl
    simp only [List.getElem?_cons_zero, Option.some.injEq] at q1
    subst q1
    have heq : ∀ r, veqL ks X.cells k.cells = some r → (Op.equal T x e.key).run P w = .ok r w := by
      intro r hr
      obtain ⟨l1, l2⟩ := veqL_len hr
      obtain ⟨cx, rfl, hcx⟩ := key_mk hk hx hsh.1 l1
      obtain ⟨cy, hy, hcy⟩ := key_mk hk (RV_of_RA q2) hsh.2 l2
      rw [hy]
      exact eqAt_all 20 T ks (keyKs_some hk).1 10000 (by omega) _ _ _ _ r hcx hcy hr
    split at hf
    · rename_i hv
      obtain rfl := Option.some.inj hf
      refine ⟨e, rfl, q3, ?_, k, rfl, hsh.2, hsh.1, hv⟩
      simp [Instr.findAsking, heq true hv]
    · rename_i hv
      obtain ⟨r, hr, rfl⟩ := Option.map_eq_some_iff.1 hf
      have ih := fa_ok hk hx ents es (i + 1) r he.tail hr
      cases r with
      | none =>
        simp only [Option.map_none] at ih ⊢
        simp [Instr.findAsking, heq false hv, ih]
      | some p =>
        obtain ⟨j, v'⟩ := p
        obtain ⟨en, g1, g2, g3, k', g4, g5⟩ := ih
        refine ⟨en, by simpa using g1, g2, ?_, k', by simpa using g4, g5⟩
        simp only [Instr.findAsking, Sem.run_bind, heq false hv, Result.andThen_ok, Bool.false_eq_true, if_false, g3]
        rw [show i + 1 + j = i + (j + 1) by omega]
    · simp at hf

theorem fn_ok {T : TypeId} {ks : List Nat} {d : TypeDesc} (hk : keyKs P T = some ks) (hd : P.underlying T = some d) (hsc : ¬ ((∃ fs, P.underlying T = some (.struct fs)) ∨ ∃ n e, P.underlying T = some (.array n e))) {X : V} {x : Value} (hx : RV J m w X x) :
    ∀ (ents : List (V × V)) (es : List MapEntry) (i : Nat) (res : Option (Nat × V)), EntsOk J m w ents es → findE ks X ents = some res →
    match res with
    | none => Instr.findNow d x es i = some none
    | some (j, v) => ∃ en : MapEntry, es[j]? = some en ∧ RA J m w v en.val ∧ Instr.findNow d x es i = some (some (i + j, en.val)) ∧ (∃ k, ents[j]? = some (k, v) ∧ kshape ks k = true ∧ kshape ks X = true ∧ veqL ks X.cells k.cells = some true)
  | [], [], i, res, _, hf => by
    simp only [findE] at hf
    split at hf
    case isFalse => simp at hf
    obtain rfl := Option.some.inj hf
    simp [Instr.findNow]
  | [], _ :: _, _, _, he, _ => by have := he.1; simp at this
  | _ :: _, [], _, _, he, _ => by have := he.1; simp at this
  | (k, v) :: ents, e :: es, i, res, he, hf => by
    simp only [findE] at hf
    split at hf
    case isFalse => simp at hf
    rename_i hsh
    simp only [Bool.and_eq_true] at hsh
    obtain ⟨en, q1, q2, q3⟩ := he.2 0 k v rfl
    simp only [List.getElem?_cons_zero, Option.some.injEq] at q1
    subst q1
    have heq : ∀ r, veqL ks X.cells k.cells = some r → Instr.sameNow d x e.key = some r := by
      intro r hr
      obtain ⟨l1, l2⟩ := veqL_len hr
      obtain ⟨cx, rfl, hcx⟩ := key_mk hk hx hsh.1 l1
      obtain ⟨cy, hy, hcy⟩ := key_mk hk (RV_of_RA q2) hsh.2 l2
      rw [hy]
      have hmk : ∀ c, mkT P T [c] = c := by
        intro c
        unfold mkT
        split
        · rename_i hu; exact absurd (.inl ⟨_, hu⟩) hsc
        · rename_i hu; exact absurd (.inr ⟨_, _, hu⟩) hsc
        · rfl
      have hl : ks.length = 1 := by
        rcases keyKs_some hk with ⟨_, ⟨h3, _⟩ | ⟨_, h4⟩⟩
        · exact absurd h3 hsc
        · exact h4
      have hflat := (keyKs_some hk).1
      match hX : X.cells, hY : k.cells, cx, cy, l1, l2, hcx, hcy, hr with
      | [a], [b], [c], [c'], _, _, hcx, hcy, hr =>
        rw [hmk, hmk]
        rcases flatK_agg hflat with h5 | h5 | ⟨hu, rfl⟩ | ⟨kk, hu, rfl⟩ | ⟨hu, rfl⟩
        · exact absurd (.inl h5) hsc
        · exact absurd (.inr h5) hsc
        all_goals
          obtain rfl := Option.some.inj (hd.symm.trans hu)
          simp only [veqL] at hr
          split at hr
          case h_2 => simp at hr
          rename_i p q hp hq
          obtain rfl := Option.some.inj hq
          simp at hr
          subst hr
          cases a <;> cases b <;> simp [sceq] at hp
        · obtain rfl := bool_of (RV_of_RC hcx.head)
          obtain rfl := bool_of (RV_of_RC hcy.head)
          subst hp
          rfl
        · obtain ⟨rfl, rfl⟩ := hp
          obtain rfl := int_of (RV_of_RC hcx.head)
          obtain rfl := int_of (RV_of_RC hcy.head)
          simp [Instr.sameNow]
        · obtain rfl := str_of (RV_of_RC hcx.head)
          obtain rfl := str_of (RV_of_RC hcy.head)
          subst hp
          simp only [Instr.sameNow, Option.some.injEq]
          rw [Bool.eq_iff_iff, MapKept.bytes_beq]
          simp
      | [], _, _, _, l1, _, _, _, _ => simp at l1; omega
      | _ :: _ :: _, _, _, _, l1, _, _, _, _ => simp at l1; omega
      | [_], [], _, _, _, l2, _, _, _ => simp at l2; omega
      | [_], _ :: _ :: _, _, _, _, l2, _, _, _ => simp at l2; omega
      | [_], [_], [], _, _, _, hcx, _, _ => have := hcx.1; simp at this
      | [_], [_], _ :: _ :: _, _, _, _, hcx, _, _ => have := hcx.1; simp at this
      | [_], [_], [_], [], _, _, _, hcy, _ => have := hcy.1; simp at this
      | [_], [_], [_], _ :: _ :: _, _, _, _, hcy, _ => have := hcy.1; simp at this
    split at hf
    · rename_i hv
      obtain rfl := Option.some.inj hf
      refine ⟨e, rfl, q3, ?_, k, rfl, hsh.2, hsh.1, hv⟩
      simp [Instr.findNow, heq true hv]
    · rename_i hv
      obtain ⟨r, hr, rfl⟩ := Option.map_eq_some_iff.1 hf
      have ih := fn_ok hk hd hsc hx ents es (i + 1) r he.tail hr
      cases r with
      | none =>
        simp only [Option.map_none] at ih ⊢
        simp [Instr.findNow, heq false hv, ih]
      | some p =>
        obtain ⟨j, v'⟩ := p
        obtain ⟨en, g1, g2, g3, k', g4, g5⟩ := ih
        refine ⟨en, by simpa using g1, g2, ?_, k', by simpa using g4, g5⟩
        simp only [Instr.findNow, heq false hv, g3]
        rw [show i + 1 + j = i + (j + 1) by omega]
    · simp at hf

/-- What the search for a key finds. -/
theorem fk_ok {T : TypeId} {ks : List Nat} (hk : keyKs P T = some ks) {X : V} {x : Value} (hx : RV J m w X x) {ents : List (V × V)} {es : List MapEntry} {res : Option (Nat × V)} (he : EntsOk J m w ents es) (hf : findE ks X ents = some res) :
    match res with
    | none => (Instr.findKey T x es).run P w = .ok none w
    | some (j, v) => ∃ en : MapEntry, es[j]? = some en ∧ RA J m w v en.val ∧ (Instr.findKey T x es).run P w = .ok (some (j, en.val)) w ∧ (∃ k, ents[j]? = some (k, v) ∧ kshape ks k = true ∧ kshape ks X = true ∧ veqL ks X.cells k.cells = some true) := by
  by_cases hagg : (∃ fs, P.underlying T = some (.struct fs)) ∨ ∃ n e, P.underlying T = some (.array n e)
  · have h1 : (Instr.findKey T x es).run P w = (Instr.findAsking T x es).run P w := by
      apply run_findKey_eq
      rcases hagg with ⟨fs, hu⟩ | ⟨n, e, hu⟩ <;> simp [hu]
    rw [h1]
    have := fa_ok hk hx ents es 0 res he hf
    cases res with
    | none => exact this
    | some p => obtain ⟨j, v⟩ := p; simpa using this
  · obtain ⟨hfl, _⟩ := keyKs_some hk
    obtain ⟨d, hd⟩ : ∃ d, P.underlying T = some d := by
      rcases flatK_agg hfl with ⟨fs, hu⟩ | ⟨n, e, hu⟩ | ⟨hu, _⟩ | ⟨k, hu, _⟩ | ⟨hu, _⟩ <;> exact ⟨_, hu⟩
    have := fn_ok hk hd hagg hx ents es 0 res he hf
    cases res with
    | none => exact MapKept.run_findKey hd this
    | some p =>
      obtain ⟨j, v⟩ := p
      obtain ⟨en, g1, g2, g3, g4⟩ := this
      exact ⟨en, g1, g2, MapKept.run_findKey hd (by simpa using g3), g4⟩

/-- A key of which the search says something is a key of its type. -/
theorem findE_fit {ks : List Nat} {X : V} : ∀ {ents : List (V × V)} {res : Option (Nat × V)}, findE ks X ents = some res → kshape ks X = true ∧ X.cells.length = ks.length
  | [], res, h => by
    simp only [findE] at h
    split at h
    · rename_i hh
      simpa using hh
    · simp at h
  | (k, v) :: ents, res, h => by
    simp only [findE] at h
    split at h
    case isFalse => simp at h
    rename_i hh
    simp only [Bool.and_eq_true] at hh
    split at h
    · rename_i hv; exact ⟨hh.1, (veqL_len hv).1⟩
    · rename_i hv; exact ⟨hh.1, (veqL_len hv).1⟩
    · simp at h

theorem key_check {T : TypeId} {ks : List Nat} (hk : keyKs P T = some ks) {X : V} {x : Value} (hx : RV J m w X x) {ents : List (V × V)} {res : Option (Nat × V)} (hf : findE ks X ents = some res) (em : Bool) : (Instr.checkKey em 10000 T x).run P w = .ok () w := by
  obtain ⟨h1, h2⟩ := findE_fit hf
  obtain ⟨cx, rfl, hcx⟩ := key_mk hk hx h1 h2
  exact ck_ok 20 em 10000 (by omega) T ks (keyKs_some hk).1 cx (by rw [← hcx.1]; exact h2)

theorem zV_ok {T : TypeId} {z : V} (hz : zV P T = some z) : ∃ v, (∀ w, (zeroValue T).run P w = .ok v w) ∧ ∀ (J : Nat → Prop) m w, RA J m w z v := by
  unfold zV at hz
  simp only [Option.bind_eq_some_iff] at hz
  obtain ⟨i, hi, v, hv, hm⟩ := hz
  refine ⟨v, fun w => by simp [zeroValue, typeInfo, hi, hv], fun J m w => ?_⟩
  split at hm
  · rename_i cs
    obtain ⟨l, hl, rfl⟩ := Option.map_eq_some_iff.1 hm
    exact ⟨cs, rfl, mapM_cvL hl⟩
  · exact RA_of_RC (cvL_ok hm)

end
end Go.Abs

set_option linter.unusedVariables false
set_option linter.unusedSimpArgs false
namespace Go.Abs
open Go.RowKit

section
variable {P : Program} {J : Nat → Prop} {m : List Ent} {w : World} {h : List O}

theorem map_obj (hr : RS J h m w) {id : Nat} {x : Value} (hx : RV J m w (.mp id) x) {ents : List (V × V)} (ho : h[id]? = some (.mp ents)) :
    ∃ en B es, m[id]? = some en ∧ en.gen = 1 ∧ en.blk = some B ∧ x = .map (some B) ∧ w.heap[B]? = some (.map es es.size) ∧ EntsOk J m w ents es.toList ∧ (∀ (i : Nat) (k v : V), ents[i]? = some (k, v) → ∃ e : MapEntry, es[i]? = some e ∧ e.born = i) := by
  obtain ⟨_, en, hen, _, hp⟩ := hx
  have hobj := hr.obj id en _ hen ho
  simp only [RO] at hobj
  obtain ⟨h0, B, hB, es, h1, h2, h3⟩ := hobj
  obtain ⟨B', hB', rfl⟩ := hp h0.symm
  obtain rfl := Option.some.inj (hB.symm.trans hB')
  refine ⟨en, B, es, hen, h0, hB, rfl, h1, ⟨by simpa using h2, fun i k v hi => ?_⟩, fun i k v hi => ?_⟩
  · obtain ⟨e, q1, _, q2, q3⟩ := h3 i k v hi
    exact ⟨e, by simpa using q1, q2, q3⟩
  · obtain ⟨e, q1, q2, _⟩ := h3 i k v hi
    exact ⟨e, q1, q2⟩

theorem list_set_self {α : Type} {l : List α} {i : Nat} {x : α} (h : l[i]? = some x) : l.set i x = l := by
  apply List.ext_getElem?
  intro j
  by_cases hj : i = j
  · subst hj; rw [List.getElem?_set_self (List.getElem?_eq_some_iff.1 h).1, h]
  · rw [List.getElem?_set_ne hj]

theorem map_set (hr : RS J h m w) {id : Nat} {en : Ent} {B : Nat} {es : Array MapEntry} (hen : m[id]? = some en) (hg : en.gen = 1) (hB : en.blk = some B) (hheap : w.heap[B]? = some (.map es es.size))
    {es' : Array MapEntry} {ents' : List (V × V)} (hsz : es'.size = ents'.length)
    (hrel : ∀ (i : Nat) (k v : V), ents'[i]? = some (k, v) → ∃ e : MapEntry, es'[i]? = some e ∧ e.born = i ∧ RA J m w k e.key ∧ RA J m w v e.val) :
    (∀ k, J k → ({ w with heap := w.heap.setIfInBounds B (.map es' es'.size) } : World).heap[k]? = w.heap[k]?) ∧
    RS J (h.set id (.mp ents')) m { w with heap := w.heap.setIfInBounds B (.map es' es'.size) } ∧ (∀ n, Ev n J m w J m { w with heap := w.heap.setIfInBounds B (.map es' es'.size) }) := by
  have hlt : B < w.heap.size := (Array.getElem?_eq_some_iff.1 hheap).1
  have hother : ∀ k, k < w.heap.size → en.blk ≠ some k → ({ w with heap := w.heap.setIfInBounds B (.map es' es'.size) } : World).heap[k]? = w.heap[k]? := by
    intro k _ hk
    have : B ≠ k := fun h => hk (by rw [hB, h])
    simp [Array.getElem?_setIfInBounds, this]
  have hset := list_set_self hen
  have hJ : ∀ k, J k → ({ w with heap := w.heap.setIfInBounds B (.map es' es'.size) } : World).heap[k]? = w.heap[k]? := by
    intro k hk
    exact hother k (hr.jlt k hk) fun hk' => (hr.dis id en k hen hk').1 hk
  refine ⟨hJ, ?_, fun n => ?_⟩
  · have := hr.upd (w' := { w with heap := w.heap.setIfInBounds B (.map es' es'.size) }) en (.mp ents') hen (Nat.le_refl _) (fun _ => rfl) (fun B' hB' => ⟨.inl hB', by rw [hB] at hB'; obtain rfl := Option.some.inj hB'; simpa using hlt⟩) hother (by simp) (by
      rw [hset]
      simp only [RO]
      refine ⟨hg, B, hB, es', by simp [Array.getElem?_setIfInBounds, hlt], hsz, fun i k v hi => ?_⟩
      obtain ⟨e, q1, q2, q3, q4⟩ := hrel i k v hi
      exact ⟨e, q1, q2, RA.mono (fun _ h => h) hJ (Ml.refl m) q3, RA.mono (fun _ h => h) hJ (Ml.refl m) q4⟩)
    rw [hset] at this
    exact this
  · have := Ev.upd (n := n) (J := J) (w := w) (w' := { w with heap := w.heap.setIfInBounds B (.map es' es'.size) }) en hen (Nat.le_refl _) (fun _ => rfl) (fun B' hB' => .inl hB') hother (by simp) rfl rfl rfl (Nat.le_refl _)
    rw [hset] at this
    exact this

theorem run_setObj_some {w : World} {r : Nat} {es : Array MapEntry} {c : Nat} (ho : w.heap[r]? = some (.map es c)) (o' : Obj) : (setObj r o').run P w = .ok () { w with heap := w.heap.setIfInBounds r o' } := by
  simp [setObj, Sem.run, ho]

theorem fine_mkm (hr : RS J h m w) (T : TypeId) (rs : Option Value) (hrs : ∀ x, rs = some x → (∃ kt et, P.underlying T = some (.map kt et)) ∧ ∃ k n, x = .int k n) :
    Fine J m w (h ++ [.mp []]) (.mp h.length) ((do pure (.value (← Instr.makeMap T rs)) : Sem Next).run P w) := by
  have hrun : (do pure (.value (← Instr.makeMap T rs)) : Sem Next).run P w = .ok (.value (.map (some w.heap.size))) (w.alloc (.map #[] 0)) := by
    cases rs with
    | none => rfl
    | some x =>
      obtain ⟨⟨kt, et, hu⟩, k, n, rfl⟩ := hrs x rfl
      simp [Instr.makeMap, run_underlying hu, asInt, asIntOf, newObj, Sem.run]
  rw [hrun]
  have hw : ∀ k, k < w.heap.size → (w.alloc (.map #[] 0)).heap[k]? = w.heap[k]? := fun k hk => heap_alloc_old w _ hk
  have hs : w.heap.size < (w.alloc (.map #[] 0)).heap.size := by show _ < (w.heap.push _).size; simp
  have h1 : RS J (h ++ [.mp []]) (m ++ [⟨1, 0, some w.heap.size, 0, 0⟩]) (w.alloc (.map #[] 0)) := RS.push hr _ _ (fun B hB => by simp at hB; omega) hw (by omega) (by
    simp only [RO]
    exact ⟨trivial, w.heap.size, rfl, #[], heap_alloc_new w _, rfl, fun i k v hi => by simp at hi⟩)
  refine ⟨_, _, J, _, .inl rfl, ⟨rfl, ⟨1, 0, some w.heap.size, 0, 0⟩, by rw [← hr.len]; exact get_last _ _, Nat.le_refl _, fun _ => ⟨_, rfl, rfl⟩⟩, h1, fun n => Ev.push _ (fun B hB => by simp at hB; omega) hw (by omega) rfl rfl rfl (Nat.le_refl _), Ml.app _ _⟩

theorem fine_lk {T kt et : TypeId} {ks : List Nat} {zero : V} (hT : P.underlying T = some (.map kt et)) (hk : keyKs P kt = some ks) (hz : zV P et = some zero) (hr : RS J h m w) {M : V} {mv : Value} (hM : RV J m w M mv)
    {X : V} {x : Value} (hx : RV J m w X x) {ents : List (V × V)} (hents : entsOf h M = some ents) {res : Option (Nat × V)} (hf : findE ks X ents = some res) (ok : Bool) :
    Fine J m w h (match res with | some (_, v) => if ok then .t [v, .b true] else v | none => if ok then .t [zero, .b false] else zero) ((do pure (.value (← Instr.lookup T mv x ok)) : Sem Next).run P w) := by
  obtain ⟨z, hzr, hzv⟩ := zV_ok hz
  have key : ∃ es : Array MapEntry, ((mv = .map none ∧ es = #[]) ∨ ∃ B c, mv = .map (some B) ∧ w.heap[B]? = some (.map es c)) ∧ EntsOk J m w ents es.toList := by
    cases M <;> simp only [entsOf] at hents <;> try (simp at hents; done)
    · split at hents
      case h_2 => simp at hents
      rename_i id es ho
      obtain rfl := Option.some.inj hents
      obtain ⟨en, B, es, _, _, _, h1, h2, h3, _⟩ := map_obj hr hM ho
      exact ⟨es, .inr ⟨B, _, h1, h2⟩, h3⟩
    · obtain rfl := Option.some.inj hents
      have : mv = .map none := hM
      exact ⟨#[], .inl ⟨this, rfl⟩, ⟨rfl, fun i k v hi => by simp at hi⟩⟩
  obtain ⟨es, hmv, hes⟩ := key
  have hck := fun em => key_check hk hx hf em
  have hfk := fk_ok hk hx hes hf
  have hrun : ∀ (r : Option (Nat × Value)), (Instr.findKey kt x es.toList).run P w = .ok r w → (Instr.lookup T mv x ok).run P w = .ok (match r with | some (_, v) => if ok then .tuple #[v, .bool true] else v | none => if ok then .tuple #[z, .bool false] else z) w := by
    intro r hr
    rcases hmv with ⟨rfl, rfl⟩ | ⟨B, c, rfl, hb⟩
    · simp only [Instr.lookup, Sem.run_bind, run_underlying hT, Result.andThen_ok, Sem.run_pure, hck, hr]
      cases r with
      | none => simp only [Sem.run_bind, hzr, Result.andThen_ok, Sem.run_pure]
      | some p => simp only [Sem.run_bind, Result.andThen_ok, Sem.run_pure]
    · simp only [Instr.lookup, Sem.run_bind, run_underlying hT, Result.andThen_ok, Sem.run_pure, MapKept.run_getObj_map hb, hck, hr]
      cases r with
      | none => simp only [Sem.run_bind, hzr, Result.andThen_ok, Sem.run_pure]
      | some p => simp only [Sem.run_bind, Result.andThen_ok, Sem.run_pure]
  cases res with
  | none =>
    simp only at hfk
    simp only [Sem.run_bind, hrun none hfk, Result.andThen_ok, Sem.run_pure]
    cases ok
    · exact Fine.pure hr (RV_of_RA (hzv J m w))
    · refine Fine.pure hr ⟨#[z, .bool false], rfl, rfl, fun i v c h1 h2 => ?_⟩
      match i with
      | 0 => simp at h1 h2; subst h1; subst h2; exact hzv J m w
      | 1 => simp at h1 h2; subst h1; subst h2; exact RA_of_RC (RC_of_RD (.b _))
      | i + 2 => simp at h1
  | some p =>
    obtain ⟨j, v⟩ := p
    obtain ⟨e, h1, h2, h3, _⟩ := hfk
    simp only [Sem.run_bind, hrun _ h3, Result.andThen_ok, Sem.run_pure]
    cases ok
    · exact Fine.pure hr (RV_of_RA h2)
    · refine Fine.pure hr ⟨#[e.val, .bool true], rfl, rfl, fun i v c h1 h3 => ?_⟩
      match i with
      | 0 => simp at h1 h3; subst h1; subst h3; exact h2
      | 1 => simp at h1 h3; subst h1; subst h3; exact RA_of_RC (RC_of_RD (.b _))
      | i + 2 => simp at h1

theorem getE {es : Array MapEntry} {ents : List (V × V)} (h : EntsOk J m w ents es.toList) {i : Nat} {k v : V} (hi : ents[i]? = some (k, v)) : ∃ e : MapEntry, es[i]? = some e ∧ RA J m w k e.key ∧ RA J m w v e.val := by
  obtain ⟨e, h1, h2⟩ := h.2 i k v hi
  exact ⟨e, by simpa using h1, h2⟩

theorem ents_set {es : Array MapEntry} {ents : List (V × V)} (hes : EntsOk J m w ents es.toList) (hborn : ∀ (i : Nat) (k v : V), ents[i]? = some (k, v) → ∃ e : MapEntry, es[i]? = some e ∧ e.born = i)
    {j : Nat} {e : MapEntry} (he : es[j]? = some e) {K Vv : V} {g : MapEntry → MapEntry} (hb : (g e).born = e.born) (hk : RA J m w K (g e).key) (hv : RA J m w Vv (g e).val) :
    (es.modify j g).size = (ents.set j (K, Vv)).length ∧ ∀ (i : Nat) (k v : V), (ents.set j (K, Vv))[i]? = some (k, v) → ∃ e' : MapEntry, (es.modify j g)[i]? = some e' ∧ e'.born = i ∧ RA J m w k e'.key ∧ RA J m w v e'.val := by
  refine ⟨by have := hes.1; simpa using this, fun i k v hi => ?_⟩
  rw [Array.getElem?_modify]
  by_cases hij : j = i
  · subst hij
    rw [List.getElem?_set] at hi
    simp only [if_true] at hi
    split at hi
    · obtain ⟨rfl, rfl⟩ := Prod.mk.injEq .. ▸ Option.some.inj hi
      rename_i hlt
      obtain ⟨⟨k0, v0⟩, h0⟩ : ∃ p, ents[j]? = some p := ⟨_, List.getElem?_eq_getElem hlt⟩
      obtain ⟨e1, h1, h2⟩ := hborn j k0 v0 h0
      obtain rfl := Option.some.inj (he.symm.trans h1)
      exact ⟨g e, by simp [he], by rw [hb, h2], hk, hv⟩
    · simp at hi
  · rw [List.getElem?_set_ne hij] at hi
    obtain ⟨e1, h1, h2⟩ := hborn i k v hi
    obtain ⟨e2, h3, h4, h5⟩ := getE hes hi
    obtain rfl := Option.some.inj (h1.symm.trans h3)
    exact ⟨e1, by simp [hij, h1], h2, h4, h5⟩

theorem ents_push {es : Array MapEntry} {ents : List (V × V)} (hes : EntsOk J m w ents es.toList) (hborn : ∀ (i : Nat) (k v : V), ents[i]? = some (k, v) → ∃ e : MapEntry, es[i]? = some e ∧ e.born = i)
    {K Vv : V} {x y : Value} (hk : RA J m w K x) (hv : RA J m w Vv y) :
    (es.push { key := x, val := y, born := es.size }).size = (ents ++ [(K, Vv)]).length ∧ ∀ (i : Nat) (k v : V), (ents ++ [(K, Vv)])[i]? = some (k, v) → ∃ e' : MapEntry, (es.push { key := x, val := y, born := es.size })[i]? = some e' ∧ e'.born = i ∧ RA J m w k e'.key ∧ RA J m w v e'.val := by
  have hsz : es.size = ents.length := by have := hes.1; simpa using this
  refine ⟨by simp [hsz], fun i k v hi => ?_⟩
  by_cases hlt : i < ents.length
  · rw [List.getElem?_append_left hlt] at hi
    obtain ⟨e1, h1, h2⟩ := hborn i k v hi
    obtain ⟨e2, h3, h4, h5⟩ := getE hes hi
    obtain rfl := Option.some.inj (h1.symm.trans h3)
    exact ⟨e1, by rw [Array.getElem?_push, if_neg (by omega)]; exact h1, h2, h4, h5⟩
  · rw [List.getElem?_append_right (by omega)] at hi
    rcases Nat.eq_zero_or_pos (i - ents.length) with h0 | h0
    · rw [h0] at hi
      simp at hi
      obtain ⟨rfl, rfl⟩ := hi
      exact ⟨_, by rw [Array.getElem?_push, if_pos (by omega)], by simp; omega, hk, hv⟩
    · rw [show i - ents.length = (i - ents.length - 1) + 1 by omega] at hi
      simp at hi

theorem fine_mup {T kt et : TypeId} {ks : List Nat} (hT : P.underlying T = some (.map kt et)) (hk : keyKs P kt = some ks) (hr : RS J h m w) {id : Nat} {mv : Value} (hM : RV J m w (.mp id) mv)
    {X : V} {x : Value} (hx : RV J m w X x) {Y : V} {y : Value} (hy : RA J m w Y y) {ents : List (V × V)} (ho : h[id]? = some (.mp ents)) {res : Option (Nat × V)} (hf : findE ks X ents = some res) :
    Fine J m w (match res with | some (i, _) => h.set id (.mp (ents.set i (X, Y))) | none => h.set id (.mp (ents ++ [(X, Y)]))) .any ((do Instr.mapUpdate T mv x y; pure .skip : Sem Next).run P w) := by
  obtain ⟨en, B, es, hen, hg, hB, rfl, hheap, hes, hborn⟩ := map_obj hr hM ho
  have hck := key_check hk hx hf false
  have hfk := fk_ok hk hx hes hf
  have hxa : RA J m w X x := by
    obtain ⟨h1, _⟩ := findE_fit hf
    cases X <;> first | exact hx | (simp [kshape] at h1; done)
  cases res with
  | none =>
    simp only at hfk
    have hrun : (do Instr.mapUpdate T (.map (some B)) x y; pure .skip : Sem Next).run P w = .ok .skip { w with heap := w.heap.setIfInBounds B (.map (es.push { key := x, val := y, born := es.size }) (es.size + 1)) } := by
      simp only [Instr.mapUpdate, Sem.run_bind, run_underlying hT, Result.andThen_ok, MapKept.run_getObj_map hheap, hck, hfk, run_setObj_some hheap, Sem.run_pure]
    rw [hrun]
    obtain ⟨q1, q2⟩ := ents_push hes hborn hxa hy
    obtain ⟨g1, g2, g3⟩ := map_set hr hen hg hB hheap q1 q2
    rw [show (es.push { key := x, val := y, born := es.size : MapEntry }).size = es.size + 1 by simp] at g2 g3
    exact ⟨undef, _, J, m, .inr ⟨rfl, rfl⟩, trivial, g2, g3, Ml.refl m⟩
  | some p =>
    obtain ⟨j, v⟩ := p
    obtain ⟨e, h1, h2, h3, k, h4, h5, h6, h7⟩ := hfk
    have he : es[j]? = some e := by simpa using h1
    obtain ⟨e', he', hke⟩ := getE hes h4
    obtain rfl := Option.some.inj (he.symm.trans he')
    obtain ⟨hxy, hkeep⟩ := keeps_ok hk hx (RV_of_RA hke.1) h6 h5 h7
    have hrun : (do Instr.mapUpdate T (.map (some B)) x y; pure .skip : Sem Next).run P w = .ok .skip { w with heap := w.heap.setIfInBounds B (.map (es.modify j fun e => { e with key := x, val := y }) es.size) } := by
      simp only [Instr.mapUpdate, Sem.run_bind, run_underlying hT, Result.andThen_ok, MapKept.run_getObj_map hheap, hck, h3, he, Option.map_some, Option.getD_some, hkeep, run_setObj_some hheap, Sem.run_pure]
    rw [hrun]
    obtain ⟨q1, q2⟩ := ents_set hes hborn he (K := X) (Vv := Y) (g := fun e => { e with key := x, val := y }) rfl hxa hy
    obtain ⟨g1, g2, g3⟩ := map_set hr hen hg hB hheap q1 q2
    rw [Array.size_modify] at g2 g3
    exact ⟨undef, _, J, m, .inr ⟨rfl, rfl⟩, trivial, g2, g3, Ml.refl m⟩

theorem fine_ment {T kt et : TypeId} {ks : List Nat} {zero : V} (hT : P.underlying T = some (.map kt et)) (hk : keyKs P kt = some ks) (hz : zV P et = some zero) (hr : RS J h m w) {id : Nat} {mv : Value} (hM : RV J m w (.mp id) mv)
    {X : V} {x : Value} (hx : RV J m w X x) {ents : List (V × V)} (ho : h[id]? = some (.mp ents)) {res : Option (Nat × V)} (hf : findE ks X ents = some res) :
    Fine J m w (match res with | some (i, v) => h.set id (.mp (ents.set i (X, v))) | none => h.set id (.mp (ents ++ [(X, zero)]))) (match res with | some (i, v) => .t [v, .i .i64 i] | none => .t [zero, .i .i64 ents.length]) ((do pure (.value (← Instr.mapEntry T mv x)) : Sem Next).run P w) := by
  obtain ⟨en, B, es, hen, hg, hB, rfl, hheap, hes, hborn⟩ := map_obj hr hM ho
  obtain ⟨z, hzr, hzv⟩ := zV_ok hz
  have hck := key_check hk hx hf false
  have hfk := fk_ok hk hx hes hf
  have hsz : es.size = ents.length := by have := hes.1; simpa using this
  have hxa : RA J m w X x := by
    obtain ⟨h1, _⟩ := findE_fit hf
    cases X <;> first | exact hx | (simp [kshape] at h1; done)
  have htup : ∀ (w' : World) (V1 : V) (v1 : Value) (n : Nat), RA J m w' V1 v1 → RV J m w' (.t [V1, .i .i64 n]) (.tuple #[v1, .int .i64 n]) := by
    intro w' V1 v1 n hv
    refine ⟨#[v1, .int .i64 n], rfl, rfl, fun i v c h1 h2 => ?_⟩
    match i with
    | 0 => simp at h1 h2; subst h1; subst h2; exact hv
    | 1 => simp at h1 h2; subst h1; subst h2; exact RA_of_RC (RC_of_RD (.i _ _))
    | i + 2 => simp at h1
  cases res with
  | none =>
    simp only at hfk
    have hrun : (do pure (.value (← Instr.mapEntry T (.map (some B)) x)) : Sem Next).run P w = .ok (.value (.tuple #[z, .int .i64 es.size])) { w with heap := w.heap.setIfInBounds B (.map (es.push { key := x, val := z, born := es.size }) (es.size + 1)) } := by
      simp only [Instr.mapEntry, Sem.run_bind, run_underlying hT, Result.andThen_ok, MapKept.run_getObj_map hheap, hck, hfk, hzr, run_setObj_some hheap, Sem.run_pure, goInt]
    rw [hrun]
    obtain ⟨q1, q2⟩ := ents_push hes hborn hxa (hzv J m w)
    obtain ⟨g1, g2, g3⟩ := map_set hr hen hg hB hheap q1 q2
    rw [show (es.push { key := x, val := z, born := es.size : MapEntry }).size = es.size + 1 by simp] at g2 g3
    refine ⟨_, _, J, m, .inl rfl, ?_, g2, g3, Ml.refl m⟩
    rw [hsz]
    exact htup _ _ _ _ (hzv J m _)
  | some p =>
    obtain ⟨j, v⟩ := p
    obtain ⟨e, h1, h2, h3, k, h4, h5, h6, h7⟩ := hfk
    have he : es[j]? = some e := by simpa using h1
    obtain ⟨e', he', hke⟩ := getE hes h4
    obtain rfl := Option.some.inj (he.symm.trans he')
    obtain ⟨e2, he2, hbj⟩ := hborn j k v h4
    obtain rfl := Option.some.inj (he.symm.trans he2)
    obtain ⟨hxy, hkeep⟩ := keeps_ok hk hx (RV_of_RA hke.1) h6 h5 h7
    have hrun : (do pure (.value (← Instr.mapEntry T (.map (some B)) x)) : Sem Next).run P w = .ok (.value (.tuple #[e.val, .int .i64 j])) { w with heap := w.heap.setIfInBounds B (.map (es.modify j fun e => { e with key := x }) es.size) } := by
      simp only [Instr.mapEntry, Sem.run_bind, run_underlying hT, Result.andThen_ok, MapKept.run_getObj_map hheap, hck, h3, he, Option.map_some, Option.getD_some, hkeep, run_setObj_some hheap, Sem.run_pure, goInt, hbj]
    rw [hrun]
    obtain ⟨q1, q2⟩ := ents_set hes hborn he (K := X) (Vv := v) (g := fun e => { e with key := x }) rfl hxa h2
    obtain ⟨g1, g2, g3⟩ := map_set hr hen hg hB hheap q1 q2
    rw [Array.size_modify] at g1 g2 g3
    exact ⟨_, _, J, m, .inl rfl, htup _ _ _ _ (RA.mono (fun _ h => h) g1 (Ml.refl m) h2), g2, g3, Ml.refl m⟩

theorem fine_est (T : TypeId) (hr : RS J h m w) {id : Nat} {mv : Value} (hM : RV J m w (.mp id) mv) {k : IntKind} {n : Int} {s : Value} (hs : RV J m w (.i k n) s) (hn : 0 ≤ n) {Y : V} {y : Value} (hy : RA J m w Y y)
    {ents : List (V × V)} (ho : h[id]? = some (.mp ents)) {K V0 : V} (hk : ents[n.toNat]? = some (K, V0)) :
    Fine J m w (h.set id (.mp (ents.set n.toNat (K, Y)))) .any ((do Instr.entryStore T mv s y; pure .skip : Sem Next).run P w) := by
  obtain ⟨en, B, es, hen, hg, hB, rfl, hheap, hes, hborn⟩ := map_obj hr hM ho
  obtain rfl := int_of hs
  obtain ⟨e, he, hbj⟩ := hborn n.toNat K V0 hk
  obtain ⟨e2, he2, hke, hve⟩ := getE hes hk
  obtain rfl := Option.some.inj (he.symm.trans he2)
  have hfi : es.findIdx? (fun e => (e.born : Int) == n) = some n.toNat := by
    have hlt : n.toNat < es.size := (Array.getElem?_eq_some_iff.1 he).1
    have hsz : es.size = ents.length := by have := hes.1; simpa using this
    rw [Array.findIdx?_eq_some_iff_getElem]
    have hall : ∀ i (hi : i < es.size), es[i].born = i := by
      intro i hi
      obtain ⟨⟨k0, v0⟩, h0⟩ : ∃ p, ents[i]? = some p := ⟨_, List.getElem?_eq_getElem (by omega)⟩
      obtain ⟨e0, h1, h2⟩ := hborn i k0 v0 h0
      rw [Array.getElem?_eq_getElem hi] at h1
      obtain rfl := Option.some.inj h1
      exact h2
    refine ⟨hlt, by rw [hall _ hlt]; simp; omega, fun j hj => ?_⟩
    rw [hall j (by omega)]
    simp
    omega
  have hrun : (do Instr.entryStore T (.map (some B)) (.int k n) y; pure .skip : Sem Next).run P w = .ok .skip { w with heap := w.heap.setIfInBounds B (.map (es.modify n.toNat fun e => { e with val := y }) es.size) } := by
    simp only [Instr.entryStore, Sem.run_bind, Result.andThen_ok, MapKept.run_getObj_map hheap, asInt, asIntOf, hfi, run_setObj_some hheap, Sem.run_pure]
  rw [hrun]
  obtain ⟨q1, q2⟩ := ents_set hes hborn he (K := K) (Vv := Y) (g := fun e => { e with val := y }) rfl hke hy
  obtain ⟨g1, g2, g3⟩ := map_set hr hen hg hB hheap q1 q2
  rw [Array.size_modify] at g2 g3
  exact ⟨undef, _, J, m, .inr ⟨rfl, rfl⟩, trivial, g2, g3, Ml.refl m⟩

theorem RA_of_ne {v : V} {c : Value} (hn : v.isT = false) (hv : RV J m w v c) : RA J m w v c := by
  cases v <;> first | exact hv | (simp [V.isT] at hn; done)

/-- The next entry of a map: any that has not come up yet. -/
def Mnx (v : V) (h : List O) (k : V → List O → Prop) : Prop :=
  match v with
  | .p id g 0 0 => match h[id]? with
    | some (.it none _ _) => g = 1 ∧ k (.t [.b false]) h
    | some (.it (some mid) since seen) => match h[mid]? with
      | some (.mp es) => g = 1 ∧ es.length = since ∧ ((∀ i, i < es.length → i ∈ seen) → k (.t [.b false]) h) ∧
          ∀ i e, es[i]? = some e → i ∉ seen → k (.t [.b true, e.1, e.2]) (h.set id (.it (some mid) since (seen ++ [i])))
      | _ => False
    | _ => False
  | _ => False

theorem iter_ptr {id : Nat} {x : Value} (hr : RS J h m w) (hx : RV J m w (.p id 1 0 0) x) {mid : Option Nat} {since : Nat} {seen : List Nat} (ho : h[id]? = some (.it mid since seen)) :
    ∃ en B mb, m[id]? = some en ∧ en.gen = 1 ∧ en.base = 0 ∧ en.sz = 0 ∧ en.blk = some B ∧ x = .pointer (some ⟨B, 0, none⟩) ∧ w.heap[B]? = some (.mapIter mb since seen.toArray since) ∧
      (mid = none → mb = none) ∧ (∀ i, mid = some i → ∃ e', m[i]? = some e' ∧ 1 ≤ e'.gen ∧ (1 = e'.gen → ∃ B', e'.blk = some B' ∧ mb = some B')) := by
  obtain ⟨_, en, hen, _, hp⟩ := hx
  have hobj := hr.obj id en _ hen ho
  simp only [RO] at hobj
  obtain ⟨h0, h1, h2, B, hB, mb, h3, h4⟩ := hobj
  obtain ⟨B', hB', rfl⟩ := hp h0.symm
  obtain rfl := Option.some.inj (hB.symm.trans hB')
  refine ⟨en, B, mb, hen, h0, h1, h2, hB, by simp [h1, h2], h3, fun h5 => by subst h5; exact h4, fun i h5 => by subst h5; exact h4⟩

theorem fine_mrng {T kt et : TypeId} (hT : P.underlying T = some (.map kt et)) (hr : RS J h m w) {M : V} {r : V} {h' : List O}
    (hs : (match M with
      | .mp id => match h[id]? with
        | some (.mp es) => some (V.p h.length 1 0 0, h ++ [O.it (some id) es.length []])
        | _ => none
      | .mnil => some (V.p h.length 1 0 0, h ++ [O.it none 0 []])
      | _ => none) = some (r, h')) {x : Value} (hx : RV J m w M x) :
    Fine J m w h' r ((do pure (.value (← Instr.range T x)) : Sem Next).run P w) := by
  have push : ∀ (o : O) (ob : Obj), RO J (m ++ [⟨1, 0, some w.heap.size, 0, 0⟩]) (w.alloc ob) ⟨1, 0, some w.heap.size, 0, 0⟩ o →
      (do pure (.value (← Instr.range T x)) : Sem Next).run P w = .ok (.value (.pointer (some ⟨w.heap.size, 0, none⟩))) (w.alloc ob) →
      Fine J m w (h ++ [o]) (.p h.length 1 0 0) ((do pure (.value (← Instr.range T x)) : Sem Next).run P w) := by
    intro o ob hro hrun
    rw [hrun]
    have hw : ∀ k, k < w.heap.size → (w.alloc ob).heap[k]? = w.heap[k]? := fun k hk => heap_alloc_old w _ hk
    have hs : w.heap.size < (w.alloc ob).heap.size := by show _ < (w.heap.push _).size; simp
    have h1 : RS J (h ++ [o]) (m ++ [⟨1, 0, some w.heap.size, 0, 0⟩]) (w.alloc ob) := RS.push hr _ _ (fun B hB => by simp at hB; omega) hw (by omega) hro
    refine ⟨_, _, J, _, .inl rfl, ⟨rfl, ⟨1, 0, some w.heap.size, 0, 0⟩, by rw [← hr.len]; exact get_last _ _, ⟨Nat.le_refl _, Nat.le_refl _⟩, fun _ => ⟨_, rfl, by simp⟩⟩, h1, fun n => Ev.push _ (fun B hB => by simp at hB; omega) hw (by omega) rfl rfl rfl (Nat.le_refl _), Ml.app _ _⟩
  split at hs
  · rename_i id
    split at hs
    case h_2 => simp at hs
    rename_i es ho
    simp only [Option.some.injEq, Prod.mk.injEq] at hs
    obtain ⟨rfl, rfl⟩ := hs
    obtain ⟨en, B, ms, hen, hg, hB, rfl, hheap, hes, _⟩ := map_obj hr hx ho
    have hsz : ms.size = es.length := by have := hes.1; simpa using this
    refine push _ (.mapIter (some B) ms.size #[] ms.size) ?_ ?_
    · simp only [RO]
      refine ⟨trivial, trivial, trivial, _, rfl, some B, by rw [← hsz]; exact heap_alloc_new w _, en, ?_, by omega, fun _ => ⟨B, hB, rfl⟩⟩
      rw [List.getElem?_append_left (List.getElem?_eq_some_iff.1 hen).1]; exact hen
    · simp only [Sem.run_bind, run_range_map w T kt et B ms ms.size hT hheap, Result.andThen_ok, Sem.run_pure]
  · simp only [Option.some.injEq, Prod.mk.injEq] at hs
    obtain ⟨rfl, rfl⟩ := hs
    have : x = .map none := hx
    subst this
    refine push _ (.mapIter none 0 #[] 0) ?_ ?_
    · simp only [RO]
      exact ⟨trivial, trivial, trivial, _, rfl, none, heap_alloc_new w _, rfl⟩
    · simp only [Sem.run_bind, run_range_nilMap w T kt et hT, Result.andThen_ok, Sem.run_pure]
  · simp at hs

theorem fine_men (hr : RS J h m w) {id : Nat} {x : Value} (hx : RV J m w (.p id 1 0 0) x) {mid since : Nat} {seen : List Nat} (ho : h[id]? = some (.it (some mid) since seen)) {es : List (V × V)} (hm : h[mid]? = some (.mp es)) (hsn : es.length = since)
    {i : Nat} (hl : seen.getLast? = some i) {K Vv : V} (hi : es[i]? = some (K, Vv)) :
    Fine J m w h (.t [K, Vv]) ((do pure (.value (← Instr.entry x)) : Sem Next).run P w) := by
  obtain ⟨en, B, mb, hen, _, _, _, hB, rfl, h1, _, hmid⟩ := iter_ptr hr hx ho
  obtain ⟨e', he', hg', hmb⟩ := hmid mid rfl
  have hobj := hr.obj mid e' _ he' hm
  simp only [RO] at hobj
  obtain ⟨h0, B', hB', ms, h3, h4, h5⟩ := hobj
  obtain ⟨B2, hB2, rfl⟩ := hmb h0.symm
  obtain rfl := Option.some.inj (hB'.symm.trans hB2)
  obtain ⟨e, he, hborn, hk, hv⟩ := h5 i K Vv hi
  have hlt : i < ms.size := (Array.getElem?_eq_some_iff.1 he).1
  have hf : ms.find? (fun e => e.born == i) = some e := by
    rw [Array.find?_eq_some_iff_getElem]
    obtain ⟨_, he2⟩ := Array.getElem?_eq_some_iff.1 he
    refine ⟨by simp [hborn], i, hlt, he2, fun j hj => ?_⟩
    obtain ⟨⟨k0, v0⟩, h6⟩ : ∃ p, es[j]? = some p := ⟨_, List.getElem?_eq_getElem (by omega)⟩
    obtain ⟨e0, h7, h8, _⟩ := h5 j k0 v0 h6
    rw [Array.getElem?_eq_getElem (by omega)] at h7
    have h9 := Option.some.inj h7
    rw [h9]
    simp [h8]; omega
  have hback : seen.toArray.back? = some i := by rw [List.back?_toArray]; exact hl
  have hrun : (do pure (.value (← Instr.entry (.pointer (some ⟨B, 0, none⟩)))) : Sem Next).run P w = .ok (.value (.tuple #[e.key, e.val])) w := by
    simp only [Instr.entry, getObj, Sem.run_bind, Sem.run, h1, h3, Result.andThen, hback, h4, hsn, bne_self_eq_false, Bool.false_eq_true, if_false, hf]
    rfl
  rw [hrun]
  refine Fine.pure hr ⟨#[e.key, e.val], rfl, rfl, fun q v c a1 a2 => ?_⟩
  match q with
  | 0 => simp at a1 a2; subst a1; subst a2; exact hk
  | 1 => simp at a1 a2; subst a1; subst a2; exact hv
  | q + 2 => simp at a1


/-- The next entry of a map. -/
theorem mnx_ok (hr : RS J h m w) {Y : V} {y : Value} (hy : RV J m w Y y) {κ : V → List O → Prop} (hdo : Mnx Y h κ) (ty : TypeId) :
    ∃ r h' v w', (Instr.next y false ty).run P w = .ok v w' ∧ κ r h' ∧ RV J m w' r v ∧ RS J h' m w' ∧ (∀ n, Ev n J m w J m w') := by
  unfold Mnx at hdo
  split at hdo
  case h_2 => exact hdo.elim
  rename_i id g
  split at hdo
  case h_3 => exact hdo.elim
  · rename_i since seen ho
    obtain ⟨rfl, hk⟩ := hdo
    obtain ⟨en, B, mb, hen, _, _, _, hB, rfl, h1, hn, _⟩ := iter_ptr hr hy ho
    obtain rfl := hn rfl
    have hrun : (Instr.next (.pointer (some ⟨B, 0, none⟩)) false ty).run P w = .ok (.tuple #[.bool false]) w := by
      simp only [Instr.next, getObj, Sem.run_bind, Sem.run, h1, Result.andThen]
      rfl
    refine ⟨_, _, _, _, hrun, hk, ⟨#[.bool false], rfl, rfl, fun q v c a1 a2 => ?_⟩, hr, fun n => Ev.refl n J m w⟩
    match q with
    | 0 => simp at a1 a2; subst a1; subst a2; exact RA_of_RC (RC_of_RD (.b _))
    | q + 1 => simp at a1
  · rename_i mid since seen ho
    split at hdo
    case h_2 => exact hdo.elim
    rename_i es hm
    obtain ⟨rfl, hsn, hk0, hk1⟩ := hdo
    obtain ⟨en, B, mb, hen, hg, hbase, hsz, hB, rfl, h1, _, hmid⟩ := iter_ptr hr hy ho
    obtain ⟨e', he', hg', hmb⟩ := hmid mid rfl
    have hobj := hr.obj mid e' _ he' hm
    simp only [RO] at hobj
    obtain ⟨h0, B', hB', ms, h3, h4, h5⟩ := hobj
    obtain ⟨B2, hB2, rfl⟩ := hmb h0.symm
    obtain rfl := Option.some.inj (hB'.symm.trans hB2)
    have hent : ∀ e ∈ ms.toList, ∃ i K Vv, es[i]? = some (K, Vv) ∧ ms[i]? = some e ∧ e.born = i ∧ RA J m w K e.key ∧ RA J m w Vv e.val := by
      intro e he
      obtain ⟨i, hi, rfl⟩ := List.getElem_of_mem he
      have hi' : i < ms.size := by simpa using hi
      obtain ⟨⟨K, Vv⟩, h6⟩ : ∃ p, es[i]? = some p := ⟨_, List.getElem?_eq_getElem (by omega)⟩
      obtain ⟨e0, h7, h8, h9, h10⟩ := h5 i K Vv h6
      rw [Array.getElem?_eq_getElem hi'] at h7
      have h11 := Option.some.inj h7
      refine ⟨i, K, Vv, h6, by rw [Array.getElem?_eq_getElem hi']; simp, ?_, ?_, ?_⟩
      · simp only [Array.getElem_toList, h11]; exact h8
      · simp only [Array.getElem_toList, h11]; exact h9
      · simp only [Array.getElem_toList, h11]; exact h10
    have hold : ∀ x ∈ ms.toList, x.born < since := by
      intro x hx
      obtain ⟨i, K, Vv, h6, h7, h8, _⟩ := hent x hx
      have := (List.getElem?_eq_some_iff.1 h6).1
      omega
    rcases run_next_at (P := P) w ty B B' since since seen.toArray ms ms.size h1 h3 hold (Nat.le_refl _) with ⟨hl, hrun⟩ | ⟨e, he, w1, hw1, hrun⟩
    · have hall : ∀ i, i < es.length → i ∈ seen := by
        intro i hi
        obtain ⟨⟨K, Vv⟩, h6⟩ : ∃ p, es[i]? = some p := ⟨_, List.getElem?_eq_getElem hi⟩
        obtain ⟨e0, h7, h8, _⟩ := h5 i K Vv h6
        have hemp := Array.eq_empty_of_size_eq_zero hl
        unfold leftOf at hemp
        rw [Array.filter_eq_empty_iff] at hemp
        have := hemp e0 (Array.mem_of_getElem? h7)
        simp [h8] at this
        exact this
      refine ⟨_, _, _, _, hrun, hk0 hall, ⟨#[.bool false], rfl, rfl, fun q v c a1 a2 => ?_⟩, hr, fun n => Ev.refl n J m w⟩
      match q with
      | 0 => simp at a1 a2; subst a1; subst a2; exact RA_of_RC (RC_of_RD (.b _))
      | q + 1 => simp at a1
    · unfold leftOf at he
      simp only [Array.toList_filter, List.mem_filter, Bool.not_eq_true'] at he
      obtain ⟨he1, he2⟩ := he
      obtain ⟨i, K, Vv, h6, h7, h8, h9, h10⟩ := hent e he1
      have hns : i ∉ seen := by rw [h8] at he2; simpa using he2
      have hheap1 : w1.heap = w.heap ∧ w1.os = w.os ∧ w1.tape = w.tape ∧ w1.output = w.output ∧ w.drawn ≤ w1.drawn := by
        rcases hw1 with rfl | rfl
        · exact ⟨rfl, rfl, rfl, rfl, Nat.le_refl _⟩
        · exact ⟨rfl, rfl, rfl, rfl, by show _ ≤ w.drawn + 1; omega⟩
      obtain ⟨g1, g2, g3, g4, g5⟩ := hheap1
      have hlt : B < w.heap.size := (Array.getElem?_eq_some_iff.1 h1).1
      have hpush : seen.toArray.push e.born = (seen ++ [i]).toArray := by rw [h8]; simp
      rw [hpush] at hrun
      generalize hW : ChangeMaps.setBlock w1 B (.mapIter (some B') since (seen ++ [i]).toArray ms.size) = W at hrun
      have hWh : W.heap = w.heap.setIfInBounds B (.mapIter (some B') since (seen ++ [i]).toArray ms.size) := by rw [← hW]; simp [ChangeMaps.setBlock, g1]
      have hother : ∀ k, k < w.heap.size → en.blk ≠ some k → W.heap[k]? = w.heap[k]? := by
        intro k _ hk
        have : B ≠ k := fun h => hk (by rw [hB, h])
        rw [hWh]
        simp [Array.getElem?_setIfInBounds, this]
      have hset := list_set_self hen
      have hJ : ∀ k, J k → W.heap[k]? = w.heap[k]? := fun k hk => hother k (hr.jlt k hk) fun hk' => (hr.dis id en k hen hk').1 hk
      have hRS : RS J (h.set id (.it (some mid) since (seen ++ [i]))) m W := by
        have := hr.upd (w' := W) en (.it (some mid) since (seen ++ [i])) hen (Nat.le_refl _) (fun _ => rfl) (fun B' hB' => ⟨.inl hB', by rw [hB] at hB'; obtain rfl := Option.some.inj hB'; rw [hWh]; simpa using hlt⟩) hother (by rw [hWh]; simp) (by
          rw [hset]
          simp only [RO]
          refine ⟨hg, hbase, hsz, B, hB, some B', ?_, e', he', hg', fun _ => ⟨B', hB2, rfl⟩⟩
          rw [hWh, h4, hsn]
          simp [Array.getElem?_setIfInBounds, hlt])
        rw [hset] at this
        exact this
      have hEv : ∀ n, Ev n J m w J m W := by
        intro n
        have := Ev.upd (n := n) (J := J) (w := w) (w' := W) en hen (Nat.le_refl _) (fun _ => rfl) (fun B' hB' => .inl hB') hother (by rw [hWh]; simp) (by rw [← hW]; exact g2) (by rw [← hW]; exact g3) (by rw [← hW]; exact g4) (by rw [← hW]; exact g5)
        rw [hset] at this
        exact this
      refine ⟨_, _, _, _, hrun, hk1 i (K, Vv) h6 hns, ⟨#[.bool true, e.key, e.val], rfl, rfl, fun q v c a1 a2 => ?_⟩, hRS, hEv⟩
      match q with
      | 0 => simp at a1 a2; subst a1; subst a2; exact RA_of_RC (RC_of_RD (.b _))
      | 1 => simp at a1 a2; subst a1; subst a2; exact RA.mono (fun _ h => h) hJ (Ml.refl m) h9
      | 2 => simp at a1 a2; subst a1; subst a2; exact RA.mono (fun _ h => h) hJ (Ml.refl m) h10
      | q + 3 => simp at a1

end
end Go.Abs

set_option linter.unusedVariables false
set_option linter.unusedSimpArgs false
namespace Go.Abs
open Go.RowKit

section
variable {P : Program} {J : Nat → Prop} {m : List Ent} {w : World} {h : List O}

/-- append onto a slice of the call's own. -/
theorem fine_app_core {t t' ty e : TypeId} {i : TypeInfo} {z : Value} (hi : P.info? e = some i) (hz : i.zero = some z) (hzs : z.cells.size = i.size)
    (hr : RS J h m w) {id g off len : Nat} {s : Value} (hs : RV J m w (.own id g off len) s) {els : List (List V)} (ho : h[id]? = some (.arr g i.size els)) (hle : off + len ≤ els.length)
    {x : Value} {news : List (List V)} {vs : List Value} (h3 : Flat (RC J m w) i.size news vs)
    (hN : news.length = 0 → ∀ a sCap, (Builtin.append_ #[t, t'] ty #[.slice a 0 sCap, x]).run P w = .ok (.slice a 0 sCap) w)
    (hF : ∀ (B o sLen sCap : Nat) (cur : Array Value) (fz : Nat × Nat) (ty' : TypeId), sLen + news.length ≤ sCap → w.heap[B]? = some (.cells cur ty' fz) → o + sLen * i.size + vs.length ≤ cur.size → (∀ v ∈ vs, v.oneCell' = true) → (∀ k, k < cur.size → ¬ (fz.1 ≤ k ∧ k < fz.2)) →
      (Builtin.append_ #[t, t'] ty #[.slice (some ⟨B, o, none⟩) sLen sCap, x]).run P w =
        .ok (.slice (some ⟨B, o, none⟩) (sLen + news.length) sCap) (w.setRow B (cur.toList.take (o + sLen * i.size) ++ vs ++ cur.toList.drop (o + sLen * i.size + vs.length)).toArray))
    (hG : ∀ (a : Option Addr) (sLen sCap : Nat) (olds : List Value), olds.length = sLen * i.size → (a = none → sLen = 0) → (∀ a', a = some a' → ∀ j v, olds[j]? = some v → w.cell? (a'.add j) = some v) → sCap < sLen + news.length → ((sLen + news.length : Nat) : Int) ≤ 9223372036854775807 → Builtin.nextslicecap (sLen + news.length) sCap * i.bytes ≤ 281474976710656 →
      (Builtin.append_ #[t, t'] ty #[.slice a sLen sCap, x]).run P w =
        .ok (.slice (some ⟨w.heap.size, 0, none⟩) (sLen + news.length) (grownCap w (sLen + news.length) sCap e))
          (w.drew.alloc (.cells (olds.toArray ++ vs.toArray ++ Builtin.zeroCells z.cells (grownCap w (sLen + news.length) sCap e - (sLen + news.length))) e)))
    (hb : (len + news.length) * i.bytes ≤ 140737488355328) (h63 : len + news.length ≤ 9223372036854775807) :
    Fine J m w (h.set id (.arr (g + 1) i.size ((els.drop off).take len ++ news))) (.own id (g + 1) 0 (len + news.length)) ((do pure (.value (← Builtin.append_ #[t, t'] ty #[s, x])) : Sem Next).run P w) := by
  have he0 : elsOf i.size h (.own id g off len) = some ((els.drop off).take len) := by simp [elsOf, ho, hle]
  have hlen : ((els.drop off).take len).length = len := by simp; omega
  obtain ⟨a, scap, us, hsv, g1, g2, g3, g4⟩ := slice_flat hr hs he0
  rw [hlen] at hsv g1 g2
  obtain ⟨en, hen, hg, hsz, hsl, hobj⟩ := own_ok hr hs ho
  have hfl := Flat.append g3 h3
  have hidm : id < m.length := (List.getElem?_eq_some_iff.1 hen).1
  have hidh : id < h.length := (List.getElem?_eq_some_iff.1 ho).1
  have hgetn : ∀ x : Ent, (m.set id x)[id]? = some x := fun x => List.getElem?_set_self hidm
  have hg1 : 1 ≤ g := by obtain ⟨_, _, _, h3, _⟩ := hs; exact h3.1
  by_cases hroom : len + news.length ≤ scap
  · by_cases h0 : len + news.length = 0
    · -- nothing at all
      have hl0 : len = 0 := by omega
      have hn0 : news = [] := List.eq_nil_of_length_eq_zero (by omega)
      subst hn0
      subst hl0
      subst hsv
      simp only [List.length_nil, Nat.add_zero]
      rw [app_runs (hN rfl a scap)]
      -- the block, if there is one, stays with the new object
      refine ⟨_, w, J, m.set id ⟨g + 1, i.size, en.blk, en.base + off, en.cap - off⟩, .inl rfl, ⟨rfl, _, hgetn _, by simp, fun _ => ?_⟩, ?_, fun n => ?_, ?_⟩
      · unfold Ent.sl at hsl ⊢
        cases hb : en.blk with
        | none =>
          rw [hb] at hsl
          exact ⟨rfl, rfl, by simpa using hsl.2.2⟩
        | some B =>
          rw [hb] at hsl
          obtain ⟨o, cc, h5, h6, h7⟩ := hsl
          refine ⟨o, cc, ?_, by simp; omega, fun hlt => ?_⟩
          · simpa using h5
          · simp only [Nat.add_zero] at hlt ⊢
            rw [h7 (by omega), hsz]
      · refine RS.upd hr _ _ hen (by simp; omega) (by simp; omega) (fun B hB => ⟨.inl hB, (hr.dis id en B hen hB).2⟩) (fun _ _ _ => rfl) (Nat.le_refl _) ?_
        obtain ⟨_, _, o3, o4⟩ := hobj
        refine ⟨rfl, rfl, by simp, ?_⟩
        simp only
        cases hb : en.blk with
        | none => rw [hb] at o4; exact ⟨by simp, by have := o4.2; omega⟩
        | some B =>
          rw [hb] at o4
          obtain ⟨h5, h5', c, ty2, fz, h6, h7, h8, h9⟩ := o4
          have hoc : off ≤ en.cap := by
            unfold Ent.sl at hsl
            rw [hb] at hsl
            obtain ⟨_, _, _, h9, _⟩ := hsl
            omega
          exact ⟨by simp, by omega, c, ty2, fz, h6, by rw [h7]; congr 1; omega, h8, by simp⟩
      · exact Ev.upd _ hen (by simp; omega) (by simp; omega) (fun B hB => .inl hB) (fun _ _ _ => rfl) (Nat.le_refl _) rfl rfl rfl (Nat.le_refl _)
      · exact Ml.set hen (by simp; omega) (by simp; omega)
    · -- room in the block
      unfold Ent.sl at hsl
      cases hb : en.blk with
      | none =>
        rw [hb] at hsl
        obtain ⟨h5, h6, h7⟩ := hsl
        exfalso
        subst hsv
        rcases h7 with h7 | ⟨_, h7⟩ <;> simp at h7 <;> omega
      | some B =>
        rw [hb] at hsl
        obtain ⟨o, cc, h5, h6, h7⟩ := hsl
        subst hsv
        simp only [Value.slice.injEq] at h5
        obtain ⟨rfl, _, rfl⟩ := h5
        obtain ⟨_, _, o3, o4⟩ := hobj
        rw [hb] at o4
        obtain ⟨p1, p2, c, ty2, fz, p3, p4, p5, p6⟩ := o4
        have ho' : o = (en.base + off) * i.size := by rw [h7 (by omega), hsz]
        subst ho'
        have hvl : vs.length = news.length * i.size := h3.1
        have hfit : (en.base + off) * i.size + len * i.size + vs.length ≤ c.size := by
          rw [hvl, p4, ← Nat.add_mul, ← Nat.add_mul]
          exact Nat.mul_le_mul_right _ (by omega)
        have hone : ∀ v ∈ vs, v.oneCell' = true := by
          intro v hv
          obtain ⟨q, hq⟩ := List.getElem?_of_mem hv
          have hql := (List.getElem?_eq_some_iff.1 hq).1
          rw [hvl] at hql
          have hszp : 0 < i.size := by
            rcases Nat.eq_zero_or_pos i.size with h | h
            · rw [h] at hql; simp at hql
            · exact h
          have q1 : q / i.size < news.length := Nat.div_lt_of_lt_mul (by rw [Nat.mul_comm]; exact hql)
          have q2 : q % i.size < i.size := Nat.mod_lt _ hszp
          have q3 : q / i.size * i.size + q % i.size = q := by rw [Nat.mul_comm]; exact Nat.div_add_mod q i.size
          have q4 := h3.2.1 _ _ (List.getElem?_eq_getElem q1)
          obtain ⟨cv, q5, q6⟩ := h3.2.2 _ _ (q % i.size) _ (List.getElem?_eq_getElem q1) (List.getElem?_eq_getElem (by omega))
          rw [q3, hq] at q5
          rw [Option.some.inj q5]
          exact RC.one q6
        have hrun := hF B _ len scap c fz ty2 hroom p3 hfit hone p5
        rw [app_runs hrun]
        have hwB : B < w.heap.size := (hr.dis id en B hen hb).2
        have hoth : ∀ k, k < w.heap.size → en.blk ≠ some k → (w.setRow B (c.toList.take ((en.base + off) * i.size + len * i.size) ++ vs ++ c.toList.drop ((en.base + off) * i.size + len * i.size + vs.length)).toArray).heap[k]? = w.heap[k]? := fun k _ hk => setRow_other w B k _ (fun hkb => hk (by rw [hb, hkb]))
        have hJ : ∀ k, J k → (w.setRow B (c.toList.take ((en.base + off) * i.size + len * i.size) ++ vs ++ c.toList.drop ((en.base + off) * i.size + len * i.size + vs.length)).toArray).heap[k]? = w.heap[k]? := fun k hk => hoth k (hr.jlt k hk) (fun hkb => (hr.dis id en k hen hkb).1 hk)
        have hsz2 : w.heap.size ≤ (w.setRow B (c.toList.take ((en.base + off) * i.size + len * i.size) ++ vs ++ c.toList.drop ((en.base + off) * i.size + len * i.size + vs.length)).toArray).heap.size := by simp [World.setRow]
        refine ⟨_, _, J, m.set id ⟨g + 1, i.size, some B, en.base + off, en.cap - off⟩, .inl rfl, ⟨rfl, _, hgetn _, ⟨by simp, Nat.le_refl _⟩, fun _ => ⟨_, _, rfl, ⟨by simpa using hroom, by simp; omega⟩, fun _ => by simp⟩⟩, ?_, fun n => ?_, ?_⟩
        · refine RS.upd hr _ _ hen (by simp; omega) (by simp; omega) (fun B' hB' => ⟨.inl (by simpa using hb.trans hB'), ?_⟩) hoth hsz2 ?_
          · simp at hB'; omega
          · refine ⟨rfl, rfl, hfl.2.1, ?_⟩
            simp only
            refine ⟨by rw [List.length_append, hlen]; omega, by omega, _, ty2, fz, setRow_heap w B c _ ty2 fz p3, ?_, ?_, ?_⟩
            · simp only [List.size_toArray, List.length_append, List.length_take, List.length_drop, Array.length_toList]
              rw [show en.base + off + (en.cap - off) = en.base + en.cap by omega, ← p4]
              omega
            · intro k hk
              apply p5
              simp only [List.size_toArray, List.length_append, List.length_take, List.length_drop, Array.length_toList] at hk
              omega
            · intro k el j y hk hj
              have hml : Ml m (m.set id ⟨g + 1, i.size, some B, en.base + off, en.cap - off⟩) := Ml.set hen (by simp; omega) (by simp; omega)
              have hsp := fun q => list_splice_get (cs := c.toList) (ys := vs) (j := (en.base + off) * i.size + len * i.size) (k := q) (by simpa using hfit)
              have hel := hfl.2.1 k el hk
              have hjl : j < i.size := by rw [← hel]; exact (List.getElem?_eq_some_iff.1 hj).1
              have hpos : (en.base + off + k) * i.size + j = (en.base + off) * i.size + (k * i.size + j) := by rw [Nat.add_mul]; omega
              rw [List.getElem?_toArray, hsp]
              by_cases hkl : k < len
              · have hkm := Nat.mul_le_mul_right i.size (show k + 1 ≤ len from hkl)
                rw [Nat.add_mul, Nat.one_mul] at hkm
                rw [if_pos (by omega)]
                rw [List.getElem?_append_left (by omega), List.getElem?_take, if_pos hkl, List.getElem?_drop] at hk
                obtain ⟨cv, q1, q2⟩ := p6 _ el j y hk hj
                refine ⟨cv, ?_, RC.mono (fun _ h => h) hJ hml q2⟩
                rw [Array.getElem?_toList, ← q1]
                congr 1
                rw [← Nat.add_assoc]
              · have hk2 : k < len + news.length := by
                  have := (List.getElem?_eq_some_iff.1 hk).1
                  rw [List.length_append, hlen] at this; exact this
                rw [List.getElem?_append_right (by omega), hlen] at hk
                obtain ⟨cv, q1, q2⟩ := h3.2.2 _ el j y hk hj
                have hkk : k * i.size = len * i.size + (k - len) * i.size := by rw [← Nat.add_mul]; congr 1; omega
                have hql := (List.getElem?_eq_some_iff.1 q1).1
                rw [if_neg (by omega), if_pos (by omega)]
                refine ⟨cv, ?_, RC.mono (fun _ h => h) hJ hml q2⟩
                rw [← q1]
                congr 1
                omega
        · exact Ev.upd _ hen (by simp; omega) (by simp; omega) (fun B' hB' => .inl (by simpa using hb.trans hB')) hoth hsz2 rfl rfl rfl (Nat.le_refl _)
        · exact Ml.set hen (by simp; omega) (by simp; omega)
  · -- a new block
    subst hsv
    have hrun := hG a len scap us (by rw [g3.1, hlen]) (fun ha => (g2 ha).1) g4 (by omega) (by omega) (growslice_fits (by omega) hb)
    rw [app_runs hrun]
    obtain ⟨hgc1, hg2⟩ := grown_bounds w (len + news.length) scap e (by omega)
    generalize hgc : grownCap w (len + news.length) scap e = gc at *
    generalize hrow : us.toArray ++ vs.toArray ++ Builtin.zeroCells z.cells (gc - (len + news.length)) = row at *
    have hrs : row.size = gc * i.size := by
      rw [← hrow]
      simp only [Array.size_append, zeroCells_size, hzs, List.size_toArray, g3.1, h3.1, hlen]
      rw [← Nat.add_mul, ← Nat.add_mul]; congr 1; omega
    have hold : ∀ k, k < w.heap.size → (w.drew.alloc (.cells row e)).heap[k]? = w.heap[k]? := fun k hk => heap_alloc_old w.drew _ hk
    refine ⟨_, _, J, m.set id ⟨g + 1, i.size, some w.heap.size, 0, gc⟩, .inl rfl, ⟨rfl, _, hgetn _, ⟨by simp, Nat.le_refl _⟩, fun _ => ⟨0, _, rfl, ⟨by simpa using hgc1, by simp⟩, by simp⟩⟩, ?_, fun n => ?_, ?_⟩
    · refine RS.upd hr _ _ hen (by simp; omega) (by simp; omega) (fun B' hB' => ?_) (fun k hk _ => hold k hk) (by simp) ?_
      · simp at hB'; simp; omega
      · refine ⟨rfl, rfl, hfl.2.1, ?_⟩
        simp only
        refine ⟨by rw [List.length_append, hlen]; exact hgc1, by omega, row, e, (0, 0), heap_alloc_new w.drew _, by simpa using hrs, by intro k _; simp, fun k el j y hk hj => ?_⟩
        obtain ⟨cv, q1, q2⟩ := flat_cells hfl (Builtin.zeroCells z.cells (gc - (len + news.length))) k el j y hk hj
        refine ⟨cv, ?_, RC.mono (fun _ h => h) (fun k hk => hold k (hr.jlt k hk)) (Ml.set hen (by simp; omega) (by simp; omega)) q2⟩
        rw [← hrow]
        simpa using q1
    · exact Ev.upd _ hen (by simp; omega) (by simp; omega) (fun B' hB' => .inr (by simp at hB'; omega)) (fun k hk _ => hold k hk) (by simp) rfl rfl rfl (by simp)
    · exact Ml.set hen (by simp; omega) (by simp; omega)

theorem zeroCells_made (z : Array Value) (n : Nat) : Builtin.zeroCells z n = madeCells z (n * z.size) := _root_.id rfl

/-- append of zero values onto a slice of the call's own. -/
theorem fine_apz_own {t t' ty e : TypeId} {i : TypeInfo} {z : Value} {kk : IntKind} (ht : P.underlying t = some (.slice e)) (ht' : P.underlying t' = some (.int kk)) (hi : P.info? e = some i) (hz : i.zero = some z) (hzs : z.cells.size = i.size)
    {zs : List V} (hzp : Pw (RC J m w) zs z.cells.toList) (hr : RS J h m w) {id g off len : Nat} {s : Value} (hs : RV J m w (.own id g off len) s) {els : List (List V)} (ho : h[id]? = some (.arr g i.size els)) (hle : off + len ≤ els.length)
    {k : IntKind} {n : Int} {x : Value} (hx : RV J m w (.i k n) x) (h0 : 0 ≤ n) (hb : (len + n.toNat) * i.bytes ≤ 140737488355328) (h63 : len + n.toNat ≤ 9223372036854775807) :
    Fine J m w (h.set id (.arr (g + 1) i.size ((els.drop off).take len ++ List.replicate n.toNat zs))) (.own id (g + 1) 0 (len + n.toNat)) ((do pure (.value (← Builtin.append_ #[t, t'] ty #[s, x])) : Sem Next).run P w) := by
  obtain rfl := int_of hx
  have hzl : zs.length = i.size := by rw [hzp.1]; simpa using hzs
  have hfl : Flat (RC J m w) i.size (List.replicate n.toNat zs) (Builtin.zeroCells z.cells n.toNat).toList := by
    rw [zeroCells_made, hzs]; exact Flat.replicate hzp hzl n.toNat
  have hw : IntKind.i64.wrap n = n := by
    simp only [IntKind.wrap, IntKind.bits, IntKind.signed]
    have : n ≤ 9223372036854775807 := by omega
    simp
    omega
  have hbn : ¬ (n * (i.bytes : Int) > 281474976710656) := by
    have h1 : n.toNat * i.bytes ≤ (len + n.toNat) * i.bytes := Nat.mul_le_mul_right _ (by omega)
    have h2 : ((n.toNat * i.bytes : Nat) : Int) = n * i.bytes := by
      rw [Int.natCast_mul]; congr 1; omega
    omega
  have hn0 : ¬ n < 0 := by omega
  have hlen : (List.replicate n.toNat zs).length = n.toNat := by simp
  have hvl : (Builtin.zeroCells z.cells n.toNat).size = n.toNat * i.size := by rw [zeroCells_size, hzs]
  have happ : ∀ w : World, (if n.toNat * i.size = 0 then pure #[] else (do pure (Builtin.zeroCells (← zeroValue e).cells n.toNat)) : Sem (Array Value)).run P w = .ok (Builtin.zeroCells z.cells n.toNat) w := by
    intro w
    split
    · rename_i h1
      rw [Sem.run_pure]
      congr 1
      exact (Array.eq_empty_of_size_eq_zero (by rw [hvl]; exact h1)).symm
    · simp [zeroValue, typeInfo, hi, hz]
  have key := fine_app_core (P := P) (t := t) (t' := t') (ty := ty) (e := e) (x := .int k n) hi hz hzs hr hs ho hle (news := List.replicate n.toNat zs) hfl ?_ ?_ ?_ (by rw [hlen]; exact hb) (by rw [hlen]; exact h63)
  · rw [hlen] at key; exact key
  · rw [hlen]
    intro hn a sCap
    have hemp : Builtin.zeroCells z.cells n.toNat = #[] := Array.eq_empty_of_size_eq_zero (by rw [hvl, hn, Nat.zero_mul])
    have hn' : n = 0 := by omega
    subst hn'
    cases a <;> simp [Builtin.append_, run_underlying ht, run_underlying ht', sizeOf, typeInfo, hi, asInt, asIntOf, hw, storeCells]
  · rw [hlen]
    intro B o sLen sCap cur fz ty' hg hB hfit h1 hzz
    have hst := run_storeCells_fz (P := P) B (o + sLen * i.size) ty' fz (Builtin.zeroCells z.cells n.toNat).toList 0 cur w hB (by omega) h1 hzz
    simp only [Nat.add_zero] at hst
    by_cases h0' : n.toNat * i.size = 0
    · have hemp : Builtin.zeroCells z.cells n.toNat = #[] := Array.eq_empty_of_size_eq_zero (by rw [hvl, h0'])
      rw [hemp] at hst ⊢
      simp [Builtin.append_, run_underlying ht, run_underlying ht', sizeOf, typeInfo, zeroValue, hi, hz, asInt, asIntOf, hw, hn0, hbn, hg, h0', Addr.add_lit, storeCells] at hst ⊢
      exact hst
    · simp [Builtin.append_, run_underlying ht, run_underlying ht', sizeOf, typeInfo, zeroValue, hi, hz, asInt, asIntOf, hw, hn0, hbn, hg, h0', Addr.add_lit, hst]
  · rw [hlen]
    intro a sLen sCap olds hlo hao hco hg h63' hfit
    have hno : ¬ sLen + n.toNat ≤ sCap := by omega
    have hq1 : ¬ (9223372036854775807 < (sLen : Int) + (n.toNat : Int)) := by omega
    have hq2 : ¬ (9223372036854775807 < (sLen : Int) + max n 0) := by omega
    have hfit' : ¬ (Builtin.nextslicecap (sLen + n.toNat) sCap * i.bytes > 281474976710656) := by omega
    have hfo := run_firstCells_any (P := P) (w := w.drew) (len := sLen) (cap := sCap) hlo hao (fun a' ha j v hj => hco a' ha j v hj)
    by_cases h0' : n.toNat * i.size = 0
    · have hemp : Builtin.zeroCells z.cells n.toNat = #[] := Array.eq_empty_of_size_eq_zero (by rw [hvl, h0'])
      rw [hemp]
      simp [Builtin.append_, run_underlying ht, run_underlying ht', sizeOf, typeInfo, zeroValue, hi, hz, asInt, asIntOf, hw, hn0, hbn, hno, hq1, hq2, hfit', h0', Question.forced, hfo, newRow, grownCap]
    · simp [Builtin.append_, run_underlying ht, run_underlying ht', sizeOf, typeInfo, zeroValue, hi, hz, asInt, asIntOf, hw, hn0, hbn, hno, hq1, hq2, hfit', h0', Question.forced, hfo, newRow, grownCap]

theorem chunk_len (sz : Nat) : ∀ (n : Nat) (cs : List V), (chunk sz n cs).length = n
  | 0, _ => rfl
  | n + 1, cs => by simp [chunk, chunk_len sz n]
theorem chunk_get {sz : Nat} : ∀ {n : Nat} {cs : List V} {i : Nat} {el : List V}, (chunk sz n cs)[i]? = some el → el = (cs.drop (i * sz)).take sz ∧ i < n
  | 0, _, _, _, h => by simp [chunk] at h
  | n + 1, cs, 0, el, h => by simp [chunk] at h; subst h; simp
  | n + 1, cs, i + 1, el, h => by
    simp only [chunk, List.getElem?_cons_succ] at h
    obtain ⟨h1, h2⟩ := chunk_get h
    refine ⟨?_, by omega⟩
    rw [h1, List.drop_drop]
    congr 2
    rw [Nat.add_mul]; omega

/-- An array of the call's own, sliced as a whole: its cells are turned no more. -/
theorem fine_sla {T e : TypeId} {sz n : Nat} (hT : P.underlying T = some (.array n e)) (he : (P.info? e).map (·.size) = some sz) (hr : RS J h m w) {id g : Nat} {x : Value} (hx : RV J m w (.p id g 0 0) x)
    {cells : List V} (ho : h[id]? = some (.arr g (n * sz) [cells])) (hn : 0 < n) (hd : cells.all V.isD = true) :
    Fine J m w (h.set id .dead) (.l sz (chunk sz n cells)) ((do pure (.value (← Instr.sliceAt T x none none none)) : Sem Next).run P w) := by
  obtain ⟨_, en, hen, _, hp⟩ := hx
  have hobj := hr.obj id en _ hen ho
  simp only [RO] at hobj
  obtain ⟨h1, h2, h3, h4⟩ := hobj
  obtain ⟨B, hB, rfl⟩ := hp h1.symm
  rw [hB] at h4
  obtain ⟨h5, h5', c, ty, fz, h6, h7, h8, h9⟩ := h4
  have hcl : cells.length = n * sz := h3 0 cells rfl
  have hrun : (do pure (.value (← Instr.sliceAt T (.pointer (some ⟨B, (en.base + 0) * en.sz + 0, none⟩)) none none none)) : Sem Next).run P w = .ok (.value (.slice (some ⟨B, (en.base + 0) * en.sz + 0, none⟩) n n)) w := by
    have hn0 : ¬ n = 0 := by omega
    simp [Instr.sliceAt, run_underlying hT, Instr.sureAddr, Instr.sliceBounds, run_sizeOf' he, hn0, Addr.add_lit]
  rw [hrun]
  have hidm : id < m.length := (List.getElem?_eq_some_iff.1 hen).1
  generalize he' : (⟨en.gen + 1, en.sz, none, 0, 0⟩ : Ent) = e'
  have g1 : en.gen ≤ e'.gen := by rw [← he']; simp
  have g2 : en.gen = e'.gen ∨ en.gen = 0 → e' = en := by
    intro hh
    have h1' : e'.gen = en.gen + 1 := by rw [← he']
    have : 1 ≤ en.gen := by omega
    omega
  have hb' : e'.blk = none := by rw [← he']
  have hrs1 : RS J (h.set id .dead) (m.set id e') w := RS.upd hr e' .dead hen g1 g2 (fun B' hB' => by rw [hb'] at hB'; simp at hB') (fun _ _ _ => rfl) (Nat.le_refl _) trivial
  have hBlt := (hr.dis id en B hen hB)
  have hne : ∀ (i : Nat) (x : Ent), (m.set id e')[i]? = some x → x.blk ≠ some B := by
    intro i x hx hxB
    by_cases hi : id = i
    · subst hi
      rw [List.getElem?_set_self hidm] at hx
      obtain rfl := Option.some.inj hx
      rw [hb'] at hxB; simp at hxB
    · rw [List.getElem?_set_ne hi] at hx
      exact hi (hr.inj i id x en B hx hen hxB hB).symm
  have hrs : RS (fun k => J k ∨ k = B) (h.set id .dead) (m.set id e') w := by
    refine ⟨hrs1.len, fun k hk => ?_, fun i x B' hx hB' => ⟨?_, (hrs1.dis i x B' hx hB').2⟩, hrs1.inj, fun i x o hx hO => RO.mono (fun _ h => .inl h) (fun _ _ => rfl) (Ml.refl _) (fun _ _ => rfl) (hrs1.obj i x o hx hO)⟩
    · rcases hk with hk | rfl
      · exact hr.jlt k hk
      · exact hBlt.2
    · rintro (hj | rfl)
      · exact (hrs1.dis i x B' hx hB').1 hj
      · exact hne i x hx hB'
  refine ⟨_, w, (fun k => J k ∨ k = B), m.set id e', .inl rfl, ?_, hrs, fun q => ?_, Ml.set hen g1 g2⟩
  · have hlen := chunk_len sz n cells
    show RD (fun k => J k ∨ k = B) w (.l sz (chunk sz n cells)) (.slice (some ⟨B, (en.base + 0) * en.sz + 0, none⟩) n n)
    have key := RD.l (J := fun k => J k ∨ k = B) (w := w) sz (chunk sz n cells) ⟨B, (en.base + 0) * en.sz + 0, none⟩ n (fun i j => (c[en.base * (n * sz) + (i * sz + j)]?).getD undef) (.inr rfl) (by rw [hlen]; exact Nat.le_refl _) ?_ ?_ ?_
    · rw [hlen] at key; exact key
    · intro i el hel
      obtain ⟨q1, q2⟩ := chunk_get hel
      rw [q1, List.length_take, List.length_drop, hcl]
      have := Nat.mul_le_mul_right sz (show i + 1 ≤ n from q2)
      rw [Nat.add_mul] at this
      omega
    · intro i j hi hj
      rw [hlen] at hi
      have := Nat.mul_le_mul_right sz (show i + 1 ≤ n from hi)
      rw [Nat.add_mul] at this
      have hlt : en.base * (n * sz) + (i * sz + j) < c.size := by
        have e1 : c.size = en.base * (n * sz) + en.cap * (n * sz) := by rw [h7, Nat.add_mul]
        have e2 : n * sz ≤ en.cap * (n * sz) := Nat.le_mul_of_pos_left _ (by have := h5; simp at this; omega)
        rw [e1]
        generalize en.cap * (n * sz) = q at *
        generalize en.base * (n * sz) = q' at *
        generalize n * sz = q'' at *
        omega
      rw [Addr.add_lit]
      simp only [World.cell?, h6, Nat.add_zero, h2]
      rw [Array.getElem?_eq_getElem hlt]
      simp
    · intro i el j v hel hv
      obtain ⟨q1, q2⟩ := chunk_get hel
      have hj : j < sz := by
        have := (List.getElem?_eq_some_iff.1 hv).1
        rw [q1, List.length_take] at this
        omega
      rw [q1, List.getElem?_take, if_pos hj, List.getElem?_drop] at hv
      obtain ⟨cv, r1, r2⟩ := h9 0 cells (i * sz + j) v rfl hv
      rw [Nat.add_zero] at r1
      rw [r1]
      exact (RD_of_RC (List.all_eq_true.1 hd v (List.mem_of_getElem? hv)) r2).mono (fun _ h => .inl h) (fun _ _ => rfl)
  · refine ⟨rfl, rfl, rfl, Nat.le_refl _, Nat.le_refl _, fun _ _ _ => rfl, fun i x B' hx hB' => ?_, fun _ h => .inl h, fun k hk => ?_, fun i x _ hx => Ml.set hen g1 g2 i x hx⟩
    · by_cases hi : id = i
      · subst hi
        rw [List.getElem?_set_self hidm] at hx
        obtain rfl := Option.some.inj hx
        rw [hb'] at hB'; simp at hB'
      · rw [List.getElem?_set_ne hi] at hx
        exact .inr ⟨i, x, hx, hB'⟩
    · rcases hk with hk | rfl
      · exact .inl hk
      · exact .inr (.inr ⟨id, en, hen, hB⟩)
end
end Go.Abs

