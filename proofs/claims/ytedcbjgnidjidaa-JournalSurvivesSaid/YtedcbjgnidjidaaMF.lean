/- The statement JournalSurvives, by values. -/
import Derived.Test.YtedcbjgnidjidaaME
set_option linter.unusedVariables false
set_option linter.unusedSimpArgs false
namespace Go.Proofs.Ytedcbjgnidjidaa
open Go.Abs Go.Sort

structure Tr where
  r : Rec
  fails : Bool
  keep : Int
def Tr.cs (t : Tr) : List V := [.i .i64 t.r.kind, .i .i64 t.r.seq, .i .i64 t.r.line, .i .i64 t.r.done, .i .i64 t.r.fr.a, .i .i64 t.r.fr.b, .i .i64 t.r.fr.c, .i .i64 t.r.fr.d, .i .i64 t.r.to.a, .i .i64 t.r.to.b, .i .i64 t.r.to.c, .i .i64 t.r.to.d, .b t.fails, .i .u8 t.keep]
def trV (l : List Tr) : V := .l 14 (l.map Tr.cs)
def schT : List Sch := [.i .i64, .i .i64, .i .i64, .i .i64, .i .i64, .i .i64, .i .i64, .i .i64, .i .i64, .i .i64, .i .i64, .i .i64, .b, .i .u8]
theorem trs_of : ∀ els : List (List V), (∀ e ∈ els, okL schT e) → ∃ rs : List Tr, els = rs.map Tr.cs ∧ ∀ t ∈ rs, 0 ≤ t.keep ∧ t.keep ≤ 255
  | [], _ => ⟨[], rfl, by simp⟩
  | e :: els, h => by
    obtain ⟨rs, rfl, h1⟩ := trs_of els (fun e he => h e (by simp [he]))
    have h0 := h e (by simp)
    simp only [schT, okL, Sch.ok] at h0
    obtain ⟨_, _, rfl, ⟨a0, rfl, _⟩, _, _, rfl, ⟨a1, rfl, _⟩, _, _, rfl, ⟨a2, rfl, _⟩, _, _, rfl, ⟨a3, rfl, _⟩, _, _, rfl, ⟨a4, rfl, _⟩, _, _, rfl, ⟨a5, rfl, _⟩, _, _, rfl, ⟨a6, rfl, _⟩, _, _, rfl, ⟨a7, rfl, _⟩, _, _, rfl, ⟨a8, rfl, _⟩, _, _, rfl, ⟨a9, rfl, _⟩, _, _, rfl, ⟨a10, rfl, _⟩, _, _, rfl, ⟨a11, rfl, _⟩, _, _, rfl, ⟨b, rfl⟩, _, _, rfl, ⟨k, rfl, hk⟩, rfl⟩ := h0
    refine ⟨⟨⟨a0, a1, a2, a3, ⟨a4, a5, a6, a7⟩, ⟨a8, a9, a10, a11⟩⟩, b, k⟩ :: rs, rfl, ?_⟩
    intro t ht
    rcases List.mem_cons.1 ht with rfl | ht
    · exact hk
    · exact h1 t ht
theorem par_trs {ps : List (Bool × List Sch)} {us : List V} (h : okPars ((false, [.sl schT]) :: ps) us) : ∃ (l : List Tr) (r : List V), us = trV l :: r ∧ (l.length ≤ 9223372036854775807 ∧ ∀ t ∈ l, 0 ≤ t.keep ∧ t.keep ≤ 255) ∧ okPars ps r := by
  simp only [okPars, okPar] at h
  obtain ⟨v, r, rfl, hv, hr⟩ := h
  simp only [okL, Sch.ok] at hv
  obtain ⟨x, r', h1, ⟨els, rfl, h2, h3⟩, rfl⟩ := hv
  obtain rfl : v = .l schT.length els := by simpa using h1
  obtain ⟨rs, rfl, h4⟩ := trs_of els h3
  exact ⟨rs, r, rfl, ⟨by simpa using h2, h4⟩, hr⟩

def lastOf (s : Nat) (R : Nat → Rec) : Rec := if s = 1 then zRec else R (s - 1)
theorem _root_.Go.Abs.SInv.pages {n s : Nat} {ps : List (List UInt8)} {R : Nat → Rec} (h : SInv n ps s R) : pagesOk ps = true := by
  unfold pagesOk
  rw [List.all_eq_true]
  intro p hp
  obtain ⟨i, hi⟩ := List.getElem?_of_mem hp
  have hlt := (List.getElem?_eq_some_iff.1 hi).1
  by_cases hs : i = s % n
  · obtain ⟨p', hp', hc⟩ := h.cur
    rw [← hs, hi] at hp'; obtain rfl := Option.some.inj hp'
    simpa using hc.1
  · rcases h.page i (by rw [← h.len]; exact hlt) hs with ⟨q, _, _, _, _, h4⟩ | ⟨h4, _⟩
    · rw [hi] at h4; obtain rfl := Option.some.inj h4; simp [recB_len]
    · rw [hi] at h4; obtain rfl := Option.some.inj h4; rfl

section
variable {n s : Nat} {ps : List (List UInt8)} {R : Nat → Rec} (h2 : 2 ≤ n) (h9 : n ≤ 9) (h : SInv n ps s R)
include h2 h9 h
theorem sv_valid : (clean ps).valid = true := clean_valid h.pages (by rw [h.len]; exact h2) (by rw [h.len]; exact h9)
theorem sv_last {f : Fl} (hp : f.pages = ps) (hv : f.valid = true) (hd : f.dead = false) : f.last.1 = lastOf s R := by
  unfold Fl.last lastR
  have := h.last h2 h9
  rw [Fl.all, if_pos ⟨hv, hd⟩, Fl.recs, hp, this, lastOf]
  split <;> rename_i hh <;> split at hh <;> simp_all
omit h2 h9 in
theorem lastOf_seq : (lastOf s R).seq + 1 = s := by
  have hp := h.pos
  unfold lastOf
  by_cases h1 : s = 1
  · rw [if_pos h1, h1]; rfl
  · rw [if_neg h1, (h.good (s - 1) (by omega) (by omega)).2]; omega
theorem sv_append {r : Rec} (hg : r.good) (hs : r.seq = s) : (clean ps).append r = (clean (ps.set (s % n) (recB r)), 0) := by
  have hv := sv_valid h2 h9 h
  have hl := sv_last h2 h9 h (f := clean ps) rfl hv rfl
  have hq := lastOf_seq h
  have hm : s % n < n := Nat.mod_lt _ (by omega)
  have hi : r.seq.tmod ps.length = ((s % n : Nat) : Int) := by rw [hs, h.len, tmod_nat0]
  have hpl := h.len
  have hh : (clean ps).has ((s % n : Nat) : Int) = true := by
    rw [has_iff]; refine ⟨hv, by omega, ?_⟩
    simp only [clean]; omega
  unfold Fl.append
  rw [if_neg (by simp [hg, hv]), if_neg (by simp [clean]), if_neg (by rw [hl, hs]; simp; omega)]
  rw [show (clean ps).pages = ps from rfl, hi, Fl.write, if_pos ⟨hh, recB_len r⟩]
  generalize s % n = j at *
  simp [clean]
theorem sv_fail {k : Nat} (hk : k ≤ 64) : (clean ps).fail 1 k = ⟨ps, 1, false, k⟩ := by
  have hv := sv_valid h2 h9 h
  unfold Fl.fail
  rw [if_neg (by rintro (h1 | h1); · simp [clean] at h1
                 · rw [hv] at h1; cases h1), if_neg (by omega)]
  simp only [clean, Fl.mk.injEq, true_and]
  omega
theorem sv_torn {r : Rec} (hg : r.good) (hs : r.seq = s) {k : Nat} (hk : k ≤ 64) : ∃ p, ps[s % n]? = some p ∧ (⟨ps, 1, false, k⟩ : Fl).append r = (⟨ps.set (s % n) ((recB r).take k ++ p.drop k), 0, true, 0⟩, 17) := by
  have hv : (⟨ps, 1, false, k⟩ : Fl).valid = true := by rw [← sv_fail h2 h9 h hk, fail_valid]; exact sv_valid h2 h9 h
  have hl := sv_last h2 h9 h (f := ⟨ps, 1, false, k⟩) rfl hv rfl
  have hq := lastOf_seq h
  have hm : s % n < n := Nat.mod_lt _ (by omega)
  have hi : r.seq.tmod ps.length = ((s % n : Nat) : Int) := by rw [hs, h.len, tmod_nat0]
  have hpl := h.len
  have hh : (⟨ps, 1, false, k⟩ : Fl).has ((s % n : Nat) : Int) = true := by
    rw [has_iff]; refine ⟨hv, by omega, ?_⟩
    show ((s % n : Nat) : Int) < (ps.length : Int); omega
  obtain ⟨p, hp, _⟩ := h.cur
  refine ⟨p, hp, ?_⟩
  unfold Fl.append
  rw [if_neg (by simp [hg, hv]), if_neg (by simp), if_neg (by rw [hl, hs]; simp; omega)]
  simp only [hi]
  rw [Fl.write, if_pos ⟨hh, recB_len r⟩]
  generalize s % n = j at *
  simp [Fl.page, hp]
end
theorem power_clean {ps : List (List UInt8)} (h : (clean ps).valid = true) {d : Bool} : (⟨ps, 0, d, 0⟩ : Fl).power = clean ps := by
  have : (⟨ps, 0, d, 0⟩ : Fl).valid = true := h
  simp [Fl.power, this, clean]

set_option maxRecDepth 20000 in
set_option maxHeartbeats 8000000 in
theorem JournalSurvives_ok (n : Int) (hn : 0 ≤ n ∧ n ≤ 255) (l : List Tr) (hl : l.length ≤ 9223372036854775807) (hk : ∀ t ∈ l, 0 ≤ t.keep ∧ t.keep ≤ 255) : PureC Try.prog 16 [.i .u8 n, trV l] (· = .b true) := by
  obtain ⟨m, rfl⟩ := Int.eq_ofNat_of_zero_le hn.1
  refine pure_of mix ok_law52_JournalSurvives (Nat.le_of_ble_eq_true rfl) ?_
  unfold law52_JournalSurvives.c
  have e1 : (m : Int).tmod 8 = ((m % 8 : Nat) : Int) := Int.ofNat_tmod m 8
  have e2 : m % 8 < 8 := Nat.mod_lt _ (by omega)
  generalize m % 8 = q at e1 e2
  have w1 : IntKind.i64.wrap (q : Int) = q := wrap64_small (by omega) (by omega)
  have w2 : IntKind.i64.wrap (2 + (q : Int)) = 2 + q := wrap64_small (by omega) (by omega)
  have w3 : IntKind.u8.wrap (q : Int) = q := by
    unfold IntKind.wrap; simp [IntKind.bits, IntKind.signed]; omega
  simp [go_sem, trV, e1, w1, w2, w3]
  refine ACall_is ((new_ok _).is rfl) ?_
  rw [win_newR e2]
  generalize hN : 2 + q = N
  have hN2 : 2 ≤ N := by omega
  have hN9 : N ≤ 9 := by omega
  simp [go_sem, clean, Fl.enc, encP, -List.reduceReplicate]
  refine AS_loop (α := Nat × Nat × List (List UInt8) × (Nat → Rec)) (fun p => p.1 ≤ l.length ∧ p.1 ≤ 40 ∧ p.2.1 ≤ p.1 + 1 ∧ SInv N p.2.2.1 p.2.1 p.2.2.2)
    (fun p => ⟨[(1, trV l), (5, .p 0 1 0 0), (7, .p 1 1 0 0), (8, .i .i64 p.1)],
      [.arr 1 4 [[encP p.2.2.1, .i .i64 0, .b false, .i .i64 0]], .arr 1 12 [(lastOf p.2.1 p.2.2.2).cs]]⟩)
    (fun p => 40 - p.1) (0, 1, List.replicate N zpage, fun _ => zRec) ⟨by omega, by omega, by simp, SInv.init hN2 _⟩ ?_ ?_
  · simp [go_sem, encP, trV, -List.reduceReplicate]
    exact ⟨rfl, of_eq_true (rec_cl _ 2)⟩
  · rintro ⟨k, s, ps, R⟩ ⟨hk1, hk2, hal, hw⟩
    simp only at hk1 hk2 hal hw
    have hps := hw.len
    by_cases hgo : k < l.length ∧ k < 40
    · obtain ⟨h1, h2⟩ := hgo
      have h2' : (k : Int) < 40 := by omega
      have hp : l[k]? = some l[k] := List.getElem?_eq_getElem h1
      have hkk := hk l[k] (List.getElem_mem _)
      generalize l[k] = t at hp hkk
      obtain ⟨_, hp'⟩ := List.getElem?_eq_some_iff.1 hp
      have hls := lastOf_seq hw
      generalize hL : lastOf s R = L at hls
      simp (disch := omega) [go_sem, trV, encP, h1, h2', hp', Tr.cs, Rec.cs, hls, wrap64_small, hL]
      have hv := kRecValid ⟨t.r.kind, s, t.r.line, t.r.done, t.r.fr, t.r.to⟩
      simp only [Rec.enc, Rec.cs] at hv
      refine ACall_is hv ?_
      by_cases hg : (⟨t.r.kind, s, t.r.line, t.r.done, t.r.fr, t.r.to⟩ : Rec).good
      · cases hf : t.fails
        · have hap := append_ok (clean ps) ⟨t.r.kind, s, t.r.line, t.r.done, t.r.fr, t.r.to⟩ (by show ps.length ≤ _; omega)
          rw [sv_append hN2 hN9 hw hg rfl] at hap
          have hw2 := hw.full hN2 hN9 hg rfl
          generalize hR : (⟨t.r.kind, s, t.r.line, t.r.done, t.r.fr, t.r.to⟩ : Rec) = r2 at hap hw2
          generalize hps2 : ps.set (s % N) (recB r2) = ps2 at hap hw2
          have hv2 := sv_valid hN2 hN9 hw2
          have hpw := (power_ok ⟨ps2, 0, false, 0⟩ (by show ps2.length ≤ _; rw [hw2.len]; omega)).is rfl
          rw [power_clean hv2] at hpw
          have hla := last_ok (clean ps2) (by show ps2.length ≤ _; rw [hw2.len]; omega)
          rw [sv_last hN2 hN9 hw2 rfl hv2 rfl] at hla
          have hl2 : lastOf (s + 1) (fun q => if q = s then r2 else R q) = r2 := by
            have := hw.pos
            unfold lastOf
            rw [if_neg (by omega)]; simp
          rw [hl2] at hla
          subst hR
          simp only [clean, Fl.enc, encP, Rec.enc, Rec.cs, apV] at hap hpw hla
          simp [go_sem, Rec.valid, hg, h1, hp', Tr.cs, hf]
          refine ACall_is hap ?_
          simp [go_sem, h1, hp', Tr.cs, hf]
          refine ACall_is hpw ?_
          simp [go_sem]
          refine ACall_is hla ?_
          simp (disch := omega) [go_sem, wrap64_small]
          exact ⟨k + 1, s + 1, ps2, _, ⟨by omega, by omega, by omega, hw2⟩, by omega, rfl, rfl, by simp only [hl2, and_self]⟩
        · have hk0 : ∃ kk : Nat, t.keep.tmod 65 = kk ∧ kk ≤ 64 := by
            refine ⟨(t.keep.tmod 65).toNat, ?_, ?_⟩
            · have := Int.tmod_nonneg 65 hkk.1; omega
            · have := Int.tmod_lt_of_pos t.keep (show (0 : Int) < 65 by omega); omega
          obtain ⟨kk, hk1', hk2'⟩ := hk0
          have hfl := (fail_ok (clean ps) 1 kk (by show ps.length ≤ _; omega)).is rfl
          rw [sv_fail hN2 hN9 hw hk2'] at hfl
          simp only [clean, Fl.enc, encP] at hfl
          have wk : IntKind.i64.wrap t.keep = t.keep := wrap64_small (by omega) (by omega)
          have wkk : IntKind.i64.wrap (kk : Int) = kk := wrap64_small (by omega) (by omega)
          simp [go_sem, Rec.valid, hg, h1, hp', Tr.cs, hf, wk, hk1', wkk]
          refine DCall_is hfl ?_
          obtain ⟨pg, hpg, hap'⟩ := sv_torn hN2 hN9 hw hg rfl hk2'
          have hap := append_ok ⟨ps, 1, false, kk⟩ ⟨t.r.kind, s, t.r.line, t.r.done, t.r.fr, t.r.to⟩ (by show ps.length ≤ _; omega)
          rw [hap'] at hap
          by_cases h64 : kk = 64
          · subst h64
            have hw2 := hw.full hN2 hN9 hg rfl
            have htk : (recB ⟨t.r.kind, s, t.r.line, t.r.done, t.r.fr, t.r.to⟩).take 64 ++ pg.drop 64 = recB ⟨t.r.kind, s, t.r.line, t.r.done, t.r.fr, t.r.to⟩ := by
              have hpl : pg.length = 64 := by
                have := List.all_eq_true.1 hw.pages pg (List.mem_of_getElem? hpg)
                simpa using this
              rw [List.take_of_length_le (by rw [recB_len]; exact Nat.le_refl _), List.drop_of_length_le (by omega), List.append_nil]
            rw [htk] at hap
            generalize hR : (⟨t.r.kind, s, t.r.line, t.r.done, t.r.fr, t.r.to⟩ : Rec) = r2 at hap hw2
            generalize hps2 : ps.set (s % N) (recB r2) = ps2 at hap hw2
            have hv2 := sv_valid hN2 hN9 hw2
            have hpw := (power_ok ⟨ps2, 0, true, 0⟩ (by show ps2.length ≤ _; rw [hw2.len]; omega)).is rfl
            rw [power_clean hv2] at hpw
            have hla := last_ok (clean ps2) (by show ps2.length ≤ _; rw [hw2.len]; omega)
            rw [sv_last hN2 hN9 hw2 rfl hv2 rfl] at hla
            have hl2 : lastOf (s + 1) (fun q => if q = s then r2 else R q) = r2 := by
              have := hw.pos
              unfold lastOf
              rw [if_neg (by omega)]; simp
            rw [hl2] at hla
            subst hR
            simp only [clean, Fl.enc, encP, Rec.enc, Rec.cs, apV] at hap hpw hla
            simp [go_sem]
            refine ACall_is hap ?_
            simp [go_sem, h1, hp', Tr.cs, hf]
            refine ACall_is hpw ?_
            simp [go_sem]
            refine ACall_is hla ?_
            simp (disch := omega) [go_sem, wrap64_small]
            exact ⟨k + 1, s + 1, ps2, _, ⟨by omega, by omega, by omega, hw2⟩, by omega, rfl, rfl, by simp only [hl2, and_self]⟩
          · have hw2 := hw.torn hN2 (r := ⟨t.r.kind, s, t.r.line, t.r.done, t.r.fr, t.r.to⟩) rfl hpg (show kk ≤ 63 by omega)
            generalize hps2 : ps.set (s % N) ((recB ⟨t.r.kind, s, t.r.line, t.r.done, t.r.fr, t.r.to⟩).take kk ++ pg.drop kk) = ps2 at hap hw2
            have hv2 := sv_valid hN2 hN9 hw2
            have hpw := (power_ok ⟨ps2, 0, true, 0⟩ (by show ps2.length ≤ _; rw [hw2.len]; omega)).is rfl
            rw [power_clean hv2] at hpw
            have hla := last_ok (clean ps2) (by show ps2.length ≤ _; rw [hw2.len]; omega)
            rw [sv_last hN2 hN9 hw2 rfl hv2 rfl, hL] at hla
            simp only [clean, Fl.enc, encP, Rec.enc, Rec.cs, apV] at hap hpw hla
            simp [go_sem]
            refine ACall_is hap ?_
            simp [go_sem, h1, hp', Tr.cs, hf]
            refine ACall_is hpw ?_
            simp [go_sem]
            refine ACall_is hla ?_
            simp (disch := omega) [go_sem, wrap64_small]
            generalize (!(L.kind == t.r.kind) || (!(L.seq == (s : Int)) || (!(L.line == t.r.line) || (!(L.done == t.r.done) || (!(L.fr.a == t.r.fr.a) || (!(L.fr.b == t.r.fr.b) || (!(L.fr.c == t.r.fr.c) || (!(L.fr.d == t.r.fr.d) || (!(L.to.a == t.r.to.a) || (!(L.to.b == t.r.to.b) || (!(L.to.c == t.r.to.c) || (!(L.to.d == t.r.to.d))))))))))))) = b
            cases b <;> simp (disch := omega) [go_sem, wrap64_small]
            all_goals
              exact ⟨k + 1, s, ps2, R, ⟨by omega, by omega, by omega, hw2⟩, by omega, rfl, rfl, by simp [hL]⟩
      · simp (disch := omega) [go_sem, Rec.valid, hg, wrap64_small]
        exact ⟨k + 1, s, ps, R, ⟨by omega, by omega, by omega, hw⟩, by omega, rfl, rfl, by simp [hL]⟩
    · have hend : k = l.length ∨ (k < l.length ∧ ¬ (k : Int) < 40) := by omega
      rcases hend with rfl | ⟨h1, h2⟩
      · simp (disch := omega) [go_sem, trV, encP, wrap64_small]
        refine ACall_is awake52 ?_
        simp [go_sem, law52_JournalSurvives.r]
      · simp (disch := omega) [go_sem, trV, encP, wrap64_small, h1, h2]
        refine ACall_is awake52 ?_
        simp [go_sem, law52_JournalSurvives.r]
end Go.Proofs.Ytedcbjgnidjidaa
