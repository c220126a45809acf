/- Part of the abstract machine on which the proof stands: its values, code and their soundness against the model. -/
import Derived.Test.YtoppidobgkgiiaaAbsJ
set_option linter.unusedVariables false
set_option linter.unusedSimpArgs false
namespace Go.Abs
open Go.RowKit

def flatFs (P : Program) (g : TypeId → Option (List Nat)) : List Field → Nat → Option (List Nat)
  | [], _ => some []
  | f :: fs, acc => if f.name = "_" ∨ f.offset ≠ acc then none else
    match g f.type with
    | some ks => if (P.info? f.type).map (·.size) = some ks.length then (flatFs P g fs (acc + ks.length)).map (ks ++ ·) else none
    | none => none

/-- The kinds of the cells of a type that is compared cell by cell. -/
def flatK (P : Program) : Nat → TypeId → Option (List Nat)
  | 0, _ => none
  | d + 1, T => match P.underlying T with
    | some .bool => some [0]
    | some (.int _) => some [1]
    | some .string => some [2]
    | some (.struct fs) => if P.stoodInHeld T then none else flatFs P (flatK P d) fs.toList 0
    | some (.array n e) => match flatK P d e with
      | some ks => if (P.info? e).map (·.size) = some ks.length then some ((List.replicate n ks).flatten) else none
      | none => none
    | _ => none

theorem veqL_len : ∀ {ks : List Nat} {xs ys : List V} {r : Bool}, veqL ks xs ys = some r → xs.length = ks.length ∧ ys.length = ks.length
  | [], [], [], _, _ => ⟨rfl, rfl⟩
  | [], [], _ :: _, _, h => by simp [veqL] at h
  | [], _ :: _, _, _, h => by simp [veqL] at h
  | _ :: _, [], _, _, h => by simp [veqL] at h
  | _ :: _, _ :: _, [], _, h => by simp [veqL] at h
  | k :: ks, x :: xs, y :: ys, r, h => by
    simp only [veqL] at h
    split at h
    · rename_i a b _ hb
      have := veqL_len hb
      simp [this.1, this.2]
    · simp at h

theorem veqL_append : ∀ {ks ls : List Nat} {xs ys : List V} {r : Bool}, veqL (ks ++ ls) xs ys = some r →
    ∃ a b, veqL ks (xs.take ks.length) (ys.take ks.length) = some a ∧ veqL ls (xs.drop ks.length) (ys.drop ks.length) = some b ∧ r = (a && b)
  | [], ls, xs, ys, r, h => ⟨true, r, by simp [veqL], by simpa using h, by simp⟩
  | k :: ks, ls, [], ys, r, h => by simp [veqL] at h
  | k :: ks, ls, x :: xs, [], r, h => by simp [veqL] at h
  | k :: ks, ls, x :: xs, y :: ys, r, h => by
    simp only [List.cons_append, veqL] at h
    split at h
    case h_2 => simp at h
    rename_i a b ha hb
    obtain ⟨c, d, h1, h2, rfl⟩ := veqL_append hb
    refine ⟨a && c, d, ?_, by simpa using h2, ?_⟩
    · simp only [List.length_cons, List.take_succ_cons, veqL, ha, h1]
    · rw [← Option.some.inj h, Bool.and_assoc]

section
variable {P : Program} {J : Nat → Prop} {m : List Ent} {w : World} {h : List O}

/-- The value of a type whose cells these are. -/
def mkT (P : Program) (T : TypeId) (cs : List Value) : Value :=
  match P.underlying T with
  | some (.struct _) | some (.array _ _) => .agg cs.toArray
  | _ => cs.headD undef

theorem flatK_agg {d : Nat} {T : TypeId} {ks : List Nat} (hf : flatK P d T = some ks) : (∃ fs, P.underlying T = some (.struct fs)) ∨ (∃ n e, P.underlying T = some (.array n e)) ∨
    ((P.underlying T = some .bool ∧ ks = [0]) ∨ (∃ k, P.underlying T = some (.int k) ∧ ks = [1]) ∨ (P.underlying T = some .string ∧ ks = [2])) := by
  cases d with
  | zero => simp [flatK] at hf
  | succ d =>
    simp only [flatK] at hf
    split at hf <;> rename_i hu
    · exact .inr (.inr (.inl ⟨hu, (Option.some.inj hf).symm⟩))
    · exact .inr (.inr (.inr (.inl ⟨_, hu, (Option.some.inj hf).symm⟩)))
    · exact .inr (.inr (.inr (.inr ⟨hu, (Option.some.inj hf).symm⟩)))
    · exact .inl ⟨_, hu⟩
    · exact .inr (.inl ⟨_, _, hu⟩)
    · simp at hf

theorem run_part_mk {d : Nat} {T : TypeId} {ks : List Nat} (hf : flatK P d T = some ks) (hi : (P.info? T).map (·.size) = some ks.length) {cs : Array Value} {off : Nat} (hl : off + ks.length ≤ cs.size) :
    (part T cs off).run P w = .ok (mkT P T ((cs.toList.drop off).take ks.length)) w := by
  have hagg : ∀ (hA : (isAgg T).run P w = .ok true w), (part T cs off).run P w = .ok (.agg ((cs.toList.drop off).take ks.length).toArray) w := by
    intro hA
    simp only [part, Sem.run_bind, hA, Result.andThen_ok, if_true, run_sizeOf' hi, Sem.run_pure]
    congr 2
    apply Array.ext'
    simp [Array.toList_extract, List.extract_eq_take_drop]
  have hsc : ∀ (hA : (isAgg T).run P w = .ok false w) (hk : ks.length = 1), (part T cs off).run P w = .ok (((cs.toList.drop off).take ks.length).headD undef) w := by
    intro hA hk
    have hlt : off < cs.size := by omega
    simp only [part, Sem.run_bind, hA, Result.andThen_ok, Bool.false_eq_true, if_false, Array.getElem?_eq_getElem hlt, Sem.run_pure, hk]
    congr 1
    rw [← List.getElem_cons_drop (by simpa using hlt)]
    simp
  rcases flatK_agg hf with ⟨fs, hu⟩ | ⟨n, e, hu⟩ | ⟨hu, rfl⟩ | ⟨k, hu, rfl⟩ | ⟨hu, rfl⟩
  · rw [hagg (by simp [isAgg, run_underlying hu])]; simp [mkT, hu]
  · rw [hagg (by simp [isAgg, run_underlying hu])]; simp [mkT, hu]
  · rw [hsc (by simp [isAgg, run_underlying hu]) rfl]; simp [mkT, hu]
  · rw [hsc (by simp [isAgg, run_underlying hu]) rfl]; simp [mkT, hu]
  · rw [hsc (by simp [isAgg, run_underlying hu]) rfl]; simp [mkT, hu]

/-- The equality of two values of a type, in one world: what is shown for a depth. -/
def EqAt (P : Program) (J : Nat → Prop) (m : List Ent) (w : World) (d : Nat) : Prop :=
  ∀ T ks, flatK P d T = some ks → ∀ d', d ≤ d' → ∀ (vx vy : List V) (cx cy : List Value) (r : Bool), Pw (RC J m w) vx cx → Pw (RC J m w) vy cy → veqL ks vx vy = some r →
    (Op.equalIn d' T (mkT P T cx) (mkT P T cy)).run P w = .ok r w

theorem eqFs_ok {d : Nat} (ih : EqAt P J m w d) : ∀ (fs : List Field) (acc : Nat) (ks : List Nat), flatFs P (flatK P d) fs acc = some ks → ∀ d', d ≤ d' → ∀ (vx vy : List V) (cx cy : Array Value) (r : Bool),
    Pw (RC J m w) vx (cx.toList.drop acc) → Pw (RC J m w) vy (cy.toList.drop acc) → veqL ks vx vy = some r → acc ≤ cx.size → acc ≤ cy.size → (Op.eqFields d' cx cy fs).run P w = .ok r w
  | [], acc, ks, hf, d', hd, vx, vy, cx, cy, r, hx, hy, hv, _, _ => by
    simp [flatFs] at hf
    subst hf
    cases vx <;> cases vy <;> simp [veqL] at hv
    subst hv
    simp [Op.eqFields]
  | f :: fs, acc, ks, hf, d', hd, vx, vy, cx, cy, r, hx, hy, hv, ha, hb => by
    simp only [flatFs] at hf
    split at hf
    case isTrue => simp at hf
    rename_i hno
    simp only [not_or, Decidable.not_not] at hno
    split at hf
    case h_2 => simp at hf
    rename_i k1 hk1
    split at hf
    case isFalse => simp at hf
    rename_i hsz
    simp only [Option.map_eq_some_iff] at hf
    obtain ⟨k2, hk2, rfl⟩ := hf
    obtain ⟨a, b, h1, h2, rfl⟩ := veqL_append hv
    have hl := veqL_len hv
    have hlx : vx.length = cx.size - acc := by have := hx.1; simpa using this
    have hly : vy.length = cy.size - acc := by have := hy.1; simpa using this
    have hlen : (k1 ++ k2).length = k1.length + k2.length := by simp
    have hp1 := run_part_mk (w := w) hk1 hsz (cs := cx) (off := f.offset) (by rw [hno.2]; omega)
    have hp2 := run_part_mk (w := w) hk1 hsz (cs := cy) (off := f.offset) (by rw [hno.2]; omega)
    rw [hno.2] at hp1 hp2
    have he := ih f.type k1 hk1 d' hd (vx.take k1.length) (vy.take k1.length) ((cx.toList.drop acc).take k1.length) ((cy.toList.drop acc).take k1.length) a (hx.take _) (hy.take _) h1
    have hrest := eqFs_ok ih fs (acc + k1.length) k2 hk2 d' hd (vx.drop k1.length) (vy.drop k1.length) cx cy b (by simpa [List.drop_drop] using hx.drop k1.length) (by simpa [List.drop_drop] using hy.drop k1.length) h2 (by omega) (by omega)
    have hn : f.name ≠ "_" := hno.1
    simp only [Op.eqFields, hn, ne_eq, not_false_eq_true, if_true, Sem.run_bind, hno.2, hp1, hp2, Result.andThen_ok, he]
    cases a
    · simp
    · simp [hrest]

theorem forIn_eq {n : Nat} {e : TypeId} {ks : List Nat} {d d' : Nat} (ih : EqAt P J m w d) (hk : flatK P d e = some ks) (hsz : (P.info? e).map (·.size) = some ks.length) (hd : d ≤ d') {cx cy : Array Value} :
    ∀ (k : Nat) (i : Nat) (vx vy : List V) (r : Bool), i + k = n → Pw (RC J m w) vx (cx.toList.drop (i * ks.length)) → Pw (RC J m w) vy (cy.toList.drop (i * ks.length)) → veqL (List.replicate k ks).flatten vx vy = some r →
      i * ks.length ≤ cx.size → i * ks.length ≤ cy.size →
      (forIn (List.range' i k) ((none : Option Bool), ()) (fun i (_ : Option Bool × Unit) => (do
          let a ← part e cx (i * ks.length)
          let b ← part e cy (i * ks.length)
          let r ← Op.equalIn d' e a b
          if (!r) = true then pure (.done (some false, ())) else pure (.yield (none, ())) : Sem (ForInStep (Option Bool × Unit))))).run P w =
        .ok ((if r then none else some false), ()) w
  | 0, i, vx, vy, r, _, hx, hy, hv, _, _ => by
    simp [veqL] at hv
    cases vx <;> cases vy <;> simp [veqL] at hv
    subst hv
    simp
  | k + 1, i, vx, vy, r, hn, hx, hy, hv, ha, hb => by
    rw [List.replicate_succ, List.flatten_cons] at hv
    obtain ⟨a, b, h1, h2, rfl⟩ := veqL_append hv
    have hl := veqL_len hv
    have hlx : vx.length = cx.size - i * ks.length := by have := hx.1; simpa using this
    have hly : vy.length = cy.size - i * ks.length := by have := hy.1; simpa using this
    have hlen : (ks ++ (List.replicate k ks).flatten).length = ks.length + ((List.replicate k ks).flatten).length := by simp
    have hp1 := run_part_mk (w := w) hk hsz (cs := cx) (off := i * ks.length) (by omega)
    have hp2 := run_part_mk (w := w) hk hsz (cs := cy) (off := i * ks.length) (by omega)
    have he := ih e ks hk d' hd _ _ _ _ a (hx.take ks.length) (hy.take ks.length) h1
    have hmul : (i + 1) * ks.length = i * ks.length + ks.length := by rw [Nat.add_mul, Nat.one_mul]
    have hrest := forIn_eq (n := n) ih hk hsz hd (cx := cx) (cy := cy) k (i + 1) (vx.drop ks.length) (vy.drop ks.length) b (by omega) (by rw [hmul]; simpa [List.drop_drop] using hx.drop ks.length) (by rw [hmul]; simpa [List.drop_drop] using hy.drop ks.length) h2 (by omega) (by omega)
    simp only [List.range'_succ, List.forIn_cons, Sem.run_bind, hp1, hp2, he, Result.andThen_ok]
    cases a
    · simp
    · simp only [Bool.not_true, Bool.false_eq_true, if_false, Sem.run_pure, Result.andThen_ok, hrest, Bool.true_and]

theorem eqAt_all : ∀ d, EqAt P J m w d
  | 0 => fun T ks hf => by simp [flatK] at hf
  | d + 1 => by
    intro T ks hf d' hd vx vy cx cy r hx hy hv
    obtain ⟨d'', rfl⟩ : ∃ d'', d' = d'' + 1 := ⟨d' - 1, by omega⟩
    simp only [flatK] at hf
    have one : ∀ k, ks = [k] → ∃ x y a b, vx = [x] ∧ vy = [y] ∧ cx = [a] ∧ cy = [b] ∧ RC J m w x a ∧ RC J m w y b ∧ sceq k x y = some r := by
      intro k hk
      subst hk
      have hl := veqL_len hv
      match vx, vy, cx, cy, hl, hx, hy, hv with
      | [x], [y], [a], [b], _, hx, hy, hv =>
        refine ⟨x, y, a, b, rfl, rfl, rfl, rfl, hx.head, hy.head, ?_⟩
        simp only [veqL] at hv
        split at hv
        · rename_i p q hp hq
          simp at hq; subst hq
          rw [hp]; simpa using hv
        · simp at hv
      | [x], [y], [], _, _, hx, _, _ => have := hx.1; simp at this
      | [x], [y], [a], [], _, _, hy, _ => have := hy.1; simp at this
      | [x], [y], _ :: _ :: _, _, _, hx, _, _ => have := hx.1; simp at this
      | [x], [y], _, _ :: _ :: _, _, _, hy, _ => have := hy.1; simp at this
    split at hf <;> rename_i hu
    · obtain ⟨x, y, a, b, rfl, rfl, rfl, rfl, ha, hb, hs⟩ := one 0 (Option.some.inj hf).symm
      cases x <;> cases y <;> simp [sceq] at hs
      subst hs
      have := bool_of (RV_of_RC ha); subst this
      have := bool_of (RV_of_RC hb); subst this
      simp [mkT, hu, run_equalIn_bool' w d'' T _ _ hu]
    · obtain ⟨x, y, a, b, rfl, rfl, rfl, rfl, ha, hb, hs⟩ := one 1 (Option.some.inj hf).symm
      cases x <;> cases y <;> simp [sceq] at hs
      obtain ⟨rfl, rfl⟩ := hs
      have := int_of (RV_of_RC ha); subst this
      have := int_of (RV_of_RC hb); subst this
      simp [mkT, hu, run_equalIn_int w d'' T _ _ _ _ hu]
    · obtain ⟨x, y, a, b, rfl, rfl, rfl, rfl, ha, hb, hs⟩ := one 2 (Option.some.inj hf).symm
      cases x <;> cases y <;> simp [sceq] at hs
      subst hs
      have := str_of (RV_of_RC ha); subst this
      have := str_of (RV_of_RC hb); subst this
      simp [mkT, hu, run_equalIn_string w d'' T _ _ hu]
    · rename_i fs
      split at hf
      case isTrue => simp at hf
      rename_i hst
      have hfo : P.fieldsOf T = fs := by simp [Program.fieldsOf, hu]
      have hT : P.underlying T = some (.struct (P.fieldsOf T)) := by rw [hfo]; exact hu
      simp only [mkT, hu]
      rw [run_equalIn_struct w d'' T _ _ hT (by simpa using hst), hfo]
      exact eqFs_ok (eqAt_all d) fs.toList 0 ks hf d'' (by omega) vx vy _ _ r (by simpa using hx) (by simpa using hy) hv (by simp) (by simp)
    · rename_i n e
      split at hf
      case h_2 => simp at hf
      rename_i k1 hk1
      split at hf
      case isFalse => simp at hf
      rename_i hsz
      obtain rfl := Option.some.inj hf
      simp only [mkT, hu]
      have := forIn_eq (P := P) (J := J) (m := m) (w := w) (d' := d'') (eqAt_all d) hk1 hsz (by omega) (n := n) (cx := cx.toArray) (cy := cy.toArray) n 0 vx vy r (by omega) (by simpa using hx) (by simpa using hy) hv (by simp) (by simp)
      simp only [Op.equalIn, Sem.run_bind, run_underlying hu, Result.andThen_ok, run_sizeOf' hsz]
      simp only [Std.Legacy.Range.forIn_eq_forIn_range', Std.Legacy.Range.size]
      simp at this ⊢
      rw [this]
      cases r <;> simp
    · simp at hf
end
end Go.Abs
