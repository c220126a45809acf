/- The statement JournalWindow, by values. -/
import Derived.Test.YtedcbjgnidjidaaMD
import Derived.Test.YtedcbjgnidjidaaGoJu
set_option linter.unusedVariables false
set_option linter.unusedSimpArgs false
namespace Go.Proofs.Ytedcbjgnidjidaa
open Go.Abs Go.Sort

theorem recs_of : ∀ els : List (List V), (∀ e ∈ els, okL schR e) → ∃ rs : List Rec, els = rs.map Rec.cs
  | [], _ => ⟨[], rfl⟩
  | e :: els, h => by
    obtain ⟨rs, rfl⟩ := recs_of els (fun e he => h e (by simp [he]))
    have h1 : okPars [(true, schR)] [.a e] := ⟨_, _, rfl, ⟨e, rfl, h e (by simp)⟩, rfl⟩
    obtain ⟨v, r, h2, _⟩ := par_rec h1
    simp only [List.cons.injEq, Rec.enc, V.a.injEq] at h2
    exact ⟨v :: rs, by rw [h2.1]; rfl⟩
theorem par_rs {ps : List (Bool × List Sch)} {us : List V} (h : okPars ((false, [.sl schR]) :: ps) us) : ∃ (l : List Rec) (r : List V), us = rsV l :: r ∧ l.length ≤ 9223372036854775807 ∧ okPars ps r := by
  simp only [okPars, okPar] at h
  obtain ⟨v, r, rfl, hv, hr⟩ := h
  simp only [okL, Sch.ok] at hv
  obtain ⟨x, r', h1, ⟨els, rfl, h2, h3⟩, rfl⟩ := hv
  obtain rfl : v = .l schR.length els := by simpa using h1
  obtain ⟨rs, rfl⟩ := recs_of els h3
  exact ⟨rs, r, rfl, by simpa using h2, hr⟩

def clean (ps : List (List UInt8)) : Fl := ⟨ps, 0, false, 0⟩
theorem _root_.Go.Abs.WInv.pages {n : Nat} {ps : List (List UInt8)} {all : List Rec} (h : WInv n ps all) : pagesOk ps = true := by
  unfold pagesOk
  rw [List.all_eq_true]
  intro p hp
  obtain ⟨i, hi⟩ := List.getElem?_of_mem hp
  have hlt := (List.getElem?_eq_some_iff.1 hi).1
  rcases h.page i (by rw [← h.len]; exact hlt) with ⟨j, r, _, _, _, h4⟩ | ⟨h4, _⟩
  · rw [hi] at h4; obtain rfl := Option.some.inj h4; simp [recB_len]
  · rw [hi] at h4; obtain rfl := Option.some.inj h4; rfl
theorem clean_valid {ps : List (List UInt8)} (h1 : pagesOk ps = true) (h2 : 2 ≤ ps.length) (h9 : ps.length ≤ 9) : (clean ps).valid = true := by
  simp only [Fl.valid, clean, h1, Bool.true_and, Bool.and_eq_true, decide_eq_true_eq]
  exact ⟨⟨⟨⟨⟨decide_eq_true (by omega), decide_eq_true (by omega)⟩, decide_eq_true (by omega)⟩, decide_eq_true (by omega)⟩, decide_eq_true (by omega)⟩, decide_eq_true (by omega)⟩
section
variable {n : Nat} {ps : List (List UInt8)} {all : List Rec} (h2 : 2 ≤ n) (h9 : n ≤ 9) (h : WInv n ps all)
include h2 h9 h
theorem win_valid : (clean ps).valid = true := clean_valid h.pages (by rw [h.len]; exact h2) (by rw [h.len]; exact h9)
theorem win_all : (clean ps).all = all.drop (all.length - n) := by
  rw [Fl.all, if_pos ⟨win_valid h2 h9 h, rfl⟩]
  exact h.all h2
theorem win_last : (clean ps).last.1.seq = all.length := by
  unfold Fl.last; rw [win_all h2 h9 h]
  have key : ∀ j (hj : j < all.length), all[j].seq = j + 1 := fun j hj => (h.recs j _ (List.getElem?_eq_getElem hj)).2
  by_cases h0 : all = []
  · subst h0; simp [lastR, zRec]
  · have hp := List.length_pos_iff.2 h0
    have : all.drop (all.length - n) ≠ [] := by rw [← List.length_pos_iff]; simp; omega
    rw [lastR_ne this]
    simp only [List.getElem_drop]
    rw [key]
    simp only [List.length_drop]
    omega
theorem win_append {r : Rec} (hg : r.good) (hs : r.seq = all.length + 1) : (clean ps).append r = (clean (ps.set ((all.length + 1) % n) (recB r)), 0) := by
  have hv := win_valid h2 h9 h
  have hl := win_last h2 h9 h
  have hm : (all.length + 1) % n < n := Nat.mod_lt _ (by omega)
  have hi : r.seq.tmod ps.length = (((all.length + 1) % n : Nat) : Int) := by rw [hs, h.len, tmod_nat]
  have hpl := h.len
  have hh : (clean ps).has (((all.length + 1) % n : Nat) : Int) = true := by
    rw [has_iff]; refine ⟨hv, by omega, ?_⟩
    simp only [clean]; omega
  unfold Fl.append
  rw [if_neg (by simp [hg, hv]), if_neg (by simp [clean]), if_neg (by rw [hl, hs]; simp)]
  rw [show (clean ps).pages = ps from rfl, hi, Fl.write, if_pos ⟨hh, recB_len r⟩]
  generalize (all.length + 1) % n = j
  simp [clean]
end

theorem win_newR {m : Nat} (h : m < 8) : newR ((2 : Int) + (m : Int)) = .t [(clean (List.replicate (2 + m) zpage)).enc, .i .i64 0] := by
  unfold newR
  rw [if_pos (by omega), show ((2 : Int) + (m : Int)).toNat = 2 + m by omega]
  rfl

set_option maxHeartbeats 4000000 in
theorem JournalWindow_ok (n : Int) (hn : 0 ≤ n ∧ n ≤ 255) (l : List Rec) (hl : l.length ≤ 9223372036854775807) : PureC Try.prog 15 [.i .u8 n, rsV l] (· = .b true) := by
  obtain ⟨m, rfl⟩ := Int.eq_ofNat_of_zero_le hn.1
  refine pure_of mix ok_law52_JournalWindow (Nat.le_of_ble_eq_true rfl) ?_
  unfold law52_JournalWindow.c
  have e1 : (m : Int).tmod 8 = ((m % 8 : Nat) : Int) := Int.ofNat_tmod m 8
  have e2 : m % 8 < 8 := Nat.mod_lt _ (by omega)
  generalize m % 8 = q at e1 e2
  have w1 : IntKind.i64.wrap (q : Int) = q := wrap64_small (by omega) (by omega)
  have w2 : IntKind.i64.wrap (2 + (q : Int)) = 2 + q := wrap64_small (by omega) (by omega)
  have w3 : IntKind.u8.wrap (q : Int) = q := by
    unfold IntKind.wrap; simp [IntKind.bits, IntKind.signed]; omega
  simp [go_sem, rsV, e1, w1, w2, w3]
  refine ACall_is ((new_ok _).is rfl) ?_
  rw [win_newR e2]
  generalize hN : 2 + q = N
  have hN2 : 2 ≤ N := by omega
  have hN9 : N ≤ 9 := by omega
  simp [go_sem, clean, Fl.enc, encP, -List.reduceReplicate]
  refine AS_loopG [.t 8 12] (α := Nat × List Rec × List (List UInt8)) (fun p => p.1 ≤ l.length ∧ p.1 ≤ 40 ∧ p.2.1.length ≤ p.1 ∧ WInv N p.2.2 p.2.1)
    (fun p => ⟨[(1, rsV l), (5, .i .i64 N), (6, .p 0 1 0 0), (8, .own 1 (p.2.1.length + 1) 0 p.2.1.length), (9, .i .i64 p.1)],
      [.arr 1 4 [[encP p.2.2, .i .i64 0, .b false, .i .i64 0]], .arr (p.2.1.length + 1) 12 (p.2.1.map Rec.cs)]⟩)
    (fun p => 40 - p.1) (0, [], List.replicate N zpage) ⟨by omega, by omega, by simp, WInv.init⟩ ?_ ?_
  · simp [go_sem, encP, rsV, -List.reduceReplicate]
    omega
  · rintro ⟨k, all, ps⟩ ⟨hk1, hk2, hal, hw⟩
    simp only at hk1 hk2 hal hw
    have hps := hw.len
    have hcall : (clean ps).all = all.drop (all.length - N) := win_all hN2 hN9 hw
    by_cases hgo : k < l.length ∧ k < 40
    · obtain ⟨h1, h2⟩ := hgo
      have h2' : (k : Int) < 40 := by omega
      have hp : l[k]? = some l[k] := List.getElem?_eq_getElem h1
      generalize l[k] = r at hp
      obtain ⟨_, hp'⟩ := List.getElem?_eq_some_iff.1 hp
      simp (disch := omega) [go_sem, rsV, encP, h1, h2', hp', Rec.cs, wrap64_small]
      have hv := kRecValid ⟨r.kind, all.length + 1, r.line, r.done, r.fr, r.to⟩
      simp only [Rec.enc, Rec.cs] at hv
      refine ACall_is hv ?_
      by_cases hg : (⟨r.kind, all.length + 1, r.line, r.done, r.fr, r.to⟩ : Rec).good
      · have hap := append_ok (clean ps) ⟨r.kind, all.length + 1, r.line, r.done, r.fr, r.to⟩ (by show ps.length ≤ _; omega)
        rw [win_append hN2 hN9 hw hg rfl] at hap
        have hw2 := hw.step hN2 hg rfl
        generalize hps2 : ps.set ((all.length + 1) % N) (recB ⟨r.kind, all.length + 1, r.line, r.done, r.fr, r.to⟩) = ps2 at hap hw2
        simp only [clean, Fl.enc, encP, Rec.enc, Rec.cs, apV] at hap
        simp [go_sem, Rec.valid, hg]
        refine ACall_is hap ?_
        have ht : List.take all.length (all.map Rec.cs) = all.map Rec.cs := List.take_of_length_le (by simp)
        simp (disch := omega) [go_sem, wrap64_small, ht]
        refine ⟨⟨by omega, by omega⟩, k + 1, all ++ [⟨r.kind, all.length + 1, r.line, r.done, r.fr, r.to⟩], ps2, ⟨by omega, by omega, by simp; omega, hw2⟩, by omega, ⟨by simp, by omega⟩, rfl, ⟨by simp, by simp [Rec.cs]⟩, fun a _ => of_eq_true (rec_cl a 2)⟩
      · simp (disch := omega) [go_sem, Rec.valid, hg, wrap64_small]
        exact ⟨k + 1, all, ps, ⟨by omega, by omega, by omega, hw⟩, by omega, ⟨rfl, by omega⟩, rfl, ⟨rfl, rfl⟩, fun a _ => of_eq_true (rec_cl a 2)⟩
    · have hcall2 := all_ok (clean ps) (by show ps.length ≤ _; omega)
      rw [hcall] at hcall2
      simp only [clean, Fl.enc, encP] at hcall2
      have hx : (if N < all.length then (all.length : Int) - N else 0) = ((all.length - N : Nat) : Int) := by split <;> omega
      have hend : k = l.length ∨ (k < l.length ∧ ¬ (k : Int) < 40) := by omega
      rcases hend with rfl | ⟨h1, h2⟩
      · simp (disch := omega) [go_sem, rsV, encP, wrap64_small]
        refine DCall_is hcall2 ?_
        simp (disch := omega) [go_sem, wrap64_small, hx]
        refine DCall_lend (us := [rsV (all.drop (all.length - N)), rsV (all.drop (all.length - N))]) ?_ (records_pure _ (by simp; omega)) rfl ?_ ?_ ?_
        · have ht2 : List.take (all.length - (all.length - N)) (List.drop (all.length - N) (all.map Rec.cs)) = List.drop (all.length - N) (all.map Rec.cs) := List.take_of_length_le (by simp)
          have hD : ∀ x ∈ List.drop (all.length - N) (all.map Rec.cs), ∀ y ∈ x, y.isD = true := by
            intro x hx
            obtain ⟨r, _, rfl⟩ := List.mem_map.1 (List.mem_of_mem_drop hx)
            exact of_eq_true (rec_isD r)
          simp [go_sem, rsV, frzAll]
          rw [ht2, if_pos hD]
          rfl
        · simp [go_sem, rsV]
        · simp [go_sem, rsV, chk]
        simp [go_sem]
        refine DCall_is awake52 ?_
        simp [go_sem, law52_JournalWindow.r]
      · simp (disch := omega) [go_sem, rsV, encP, wrap64_small, h1, h2]
        refine DCall_is hcall2 ?_
        simp (disch := omega) [go_sem, wrap64_small, hx]
        refine DCall_lend (us := [rsV (all.drop (all.length - N)), rsV (all.drop (all.length - N))]) ?_ (records_pure _ (by simp; omega)) rfl ?_ ?_ ?_
        · have ht2 : List.take (all.length - (all.length - N)) (List.drop (all.length - N) (all.map Rec.cs)) = List.drop (all.length - N) (all.map Rec.cs) := List.take_of_length_le (by simp)
          have hD : ∀ x ∈ List.drop (all.length - N) (all.map Rec.cs), ∀ y ∈ x, y.isD = true := by
            intro x hx
            obtain ⟨r, _, rfl⟩ := List.mem_map.1 (List.mem_of_mem_drop hx)
            exact of_eq_true (rec_isD r)
          simp [go_sem, rsV, frzAll]
          rw [ht2, if_pos hD]
          rfl
        · simp [go_sem, rsV]
        · simp [go_sem, rsV, chk]
        simp [go_sem]
        refine DCall_is awake52 ?_
        simp [go_sem, law52_JournalWindow.r]
end Go.Proofs.Ytedcbjgnidjidaa
