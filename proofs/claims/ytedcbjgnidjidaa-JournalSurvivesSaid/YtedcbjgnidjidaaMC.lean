/- What Last and Append of the journal do to values. -/
import Derived.Test.YtedcbjgnidjidaaMB
set_option linter.unusedVariables false
set_option linter.unusedSimpArgs false
namespace Go.Proofs.Ytedcbjgnidjidaa
open Go.Abs Go.Sort

def lastR (l : List Rec) : Rec × Bool := match l.getLast? with | some r => (r, true) | none => (zRec, false)
def Fl.last (f : Fl) : Rec × Bool := lastR f.all
def Fl.append (f : Fl) (r : Rec) : Fl × Int :=
  if ¬ r.good ∨ f.valid = false then (f, 1) else if f.dead = true then (f, 17) else if r.seq ≠ f.last.1.seq + 1 then (f, 11) else f.write (r.seq.tmod f.pages.length) (recB r)

theorem all_len (f : Fl) : f.all.length ≤ f.pages.length := by
  unfold Fl.all
  split
  · rw [srt_len]; exact recsK_len _ _
  · simp
theorem lastR_nil : lastR [] = (zRec, false) := rfl
theorem lastR_ne {l : List Rec} (h : l ≠ []) : lastR l = (l[l.length - 1]'(by have := List.length_pos_iff.2 h; omega), true) := by
  unfold lastR
  rw [List.getLast?_eq_getElem?, List.getElem?_eq_getElem (by have := List.length_pos_iff.2 h; omega)]

theorem last_ok (f : Fl) (hb : f.pages.length ≤ 8796093022208) : CallIs Try.prog 41 [f.enc] (.t [f.last.1.enc, .b f.last.2]) := by
  refine PureC.is (pure_of mix ok_journal_Last (Nat.le_of_ble_eq_true rfl) ?_) rfl
  unfold journal_Last.c
  simp [go_sem, Fl.enc, encP]
  refine ACall_is (all_ok f hb) ?_
  have hl := all_len f
  unfold Fl.last
  generalize f.all = l at hl
  by_cases h0 : l = []
  · subst h0
    simp [go_sem, rsV, journal_Last.r, lastR_nil, Rec.enc, Rec.cs, zRec]
  · have hp := List.length_pos_iff.2 h0
    have h1 : l.length - 1 < l.length := by omega
    have h2 : ((l.length : Int) - 1).toNat = l.length - 1 := by omega
    rw [lastR_ne h0]
    simp (disch := omega) [go_sem, rsV, journal_Last.r, h0, wrap64_small, h1, h2, Rec.enc, Rec.cs]
    omega

theorem rlast_ok (f : Fl) (hb : f.pages.length ≤ 8796093022208) : CallIs Try.prog 42 [f.enc] (.t [f.last.1.enc, .b f.last.2]) := by
  refine PureC.is (pure_of mix ok_ref52_Last (Nat.le_of_ble_eq_true rfl) ?_) rfl
  unfold ref52_Last.c
  simp [go_sem, Fl.enc, encP]
  refine ACall_is (rall_ok f hb) ?_
  have hl := all_len f
  unfold Fl.last
  generalize f.all = l at hl
  by_cases h0 : l = []
  · subst h0
    simp [go_sem, rsV, ref52_Last.r, lastR_nil, Rec.enc, Rec.cs, zRec]
  · have hp := List.length_pos_iff.2 h0
    have h1 : l.length - 1 < l.length := by omega
    have h2 : ((l.length : Int) - 1).toNat = l.length - 1 := by omega
    rw [lastR_ne h0]
    simp (disch := omega) [go_sem, rsV, ref52_Last.r, h0, wrap64_small, h1, h2, Rec.enc, Rec.cs]
    omega
theorem good_head {r : Rec} (h : r.good) : 1 ≤ r.seq ∧ r.seq ≤ 1099511627776 := by
  have := h.1
  unfold Rec.head at this
  omega
theorem all_good {f : Fl} {r : Rec} (h : r ∈ f.all) : r.good ∧ f.valid = true ∧ f.dead = false ∧ ∃ i p, i < f.pages.length ∧ f.pages[i]? = some p ∧ decR p = (r, 0) ∧ r.seq.tmod f.pages.length = i := by
  unfold Fl.all at h
  split at h
  · rename_i hv
    have h2 := (srt_perm _).mem_iff.1 h
    obtain ⟨i, p, hi, hp, hd, hm⟩ := recsK_mem h2
    refine ⟨?_, hv.1, hv.2, i, p, hi, hp, hd, hm⟩
    unfold decR at hd
    split at hd
    · simp at hd
    · split at hd
      · rename_i hh
        simp only [Prod.mk.injEq] at hd
        rw [← hd.1]; exact hh.1
      · simp at hd
  · simp at h
theorem last_seq (f : Fl) : 0 ≤ f.last.1.seq ∧ f.last.1.seq ≤ 1099511627776 := by
  by_cases h : f.all = []
  · unfold Fl.last; rw [h]; simp [lastR, zRec]
  · unfold Fl.last; rw [lastR_ne h]
    have := good_head (all_good (List.getElem_mem _ : f.all[f.all.length - 1]'(by have := List.length_pos_iff.2 h; omega) ∈ f.all)).1
    simp only; omega

def apV (p : Fl × Int) : V := .t [p.1.enc, .i .i64 p.2]

set_option maxHeartbeats 2000000 in
theorem append_ok (f : Fl) (r : Rec) (hb : f.pages.length ≤ 8796093022208) : CallIs Try.prog 46 [f.enc, r.enc] (apV (f.append r)) := by
  refine PureC.is (pure_of mix ok_journal_Append (Nat.le_of_ble_eq_true rfl) ?_) rfl
  unfold journal_Append.c
  have hls := last_seq f
  simp [go_sem, Fl.enc, encP, Rec.enc, Rec.cs]
  refine ACall_is (kEncode r) ?_
  by_cases hg : r.good
  case neg =>
    simp [go_sem, encV, hg]
    refine ACall_is (last_ok f hb) ?_
    simp [go_sem, journal_Append.r, Fl.append, hg, apV, Fl.enc, encP, Rec.enc, Rec.cs]
  case pos =>
  simp [go_sem, encV, hg]
  refine ACall_is (last_ok f hb) ?_
  simp [go_sem, Rec.enc, Rec.cs]
  refine ACall_is ((valid_ok f (by omega)).is rfl) ?_
  cases hv : f.valid
  · simp [go_sem, journal_Append.r, Fl.append, hg, apV, Fl.enc, encP, hv]
  have hn2 := (valid_parts hv).2
  have hn0 : ¬ f.pages = [] := by rintro h; rw [h] at hn2; simp at hn2
  cases hd : f.dead
  · by_cases hs : r.seq = f.last.1.seq + 1
    · simp (disch := omega) [go_sem, hv, hd, hs, wrap64_small, hn0]
      have hw := (write_ok f ((f.last.1.seq + 1).tmod f.pages.length) (recB r) hb).is rfl
      rw [Fl.enc, encP, hd] at hw
      refine DCall_is hw ?_
      simp [go_sem, journal_Append.r, Fl.append, hg, apV, Fl.enc, encP, hv, hd, hs]
    · simp (disch := omega) [go_sem, journal_Append.r, Fl.append, hg, apV, Fl.enc, encP, hv, hd, hs, wrap64_small]
  · simp [go_sem, journal_Append.r, Fl.append, hg, apV, Fl.enc, encP, hv, hd]

set_option maxHeartbeats 2000000 in
theorem rappend_ok (f : Fl) (r : Rec) (hb : f.pages.length ≤ 8796093022208) : CallIs Try.prog 47 [f.enc, r.enc] (apV (f.append r)) := by
  refine PureC.is (pure_of mix ok_ref52_Append (Nat.le_of_ble_eq_true rfl) ?_) rfl
  unfold ref52_Append.c
  have hls := last_seq f
  simp [go_sem, Fl.enc, encP, Rec.enc, Rec.cs]
  refine ACall_is (rEncode r) ?_
  by_cases hg : r.good
  case neg =>
    simp [go_sem, encV, hg, ref52_Append.r, Fl.append, apV, Fl.enc, encP]
  case pos =>
  simp [go_sem, encV, hg]
  refine ACall_is ((rvalid_ok f (by omega)).is rfl) ?_
  cases hv : f.valid
  · simp [go_sem, ref52_Append.r, Fl.append, hg, apV, Fl.enc, encP, hv]
  have hn2 := (valid_parts hv).2
  have hn0 : ¬ f.pages = [] := by rintro h; rw [h] at hn2; simp at hn2
  cases hd : f.dead
  · simp [go_sem, hd]
    have hl := rlast_ok f hb
    rw [Fl.enc, encP, hd] at hl
    refine ACall_is hl ?_
    by_cases hs : r.seq = f.last.1.seq + 1
    · simp (disch := omega) [go_sem, hv, hd, hs, wrap64_small, hn0, Rec.enc, Rec.cs]
      have hw := (rwrite_ok f ((f.last.1.seq + 1).tmod f.pages.length) (recB r) hb).is rfl
      rw [Fl.enc, encP, hd] at hw
      refine DCall_is hw ?_
      simp [go_sem, ref52_Append.r, Fl.append, hg, apV, Fl.enc, encP, hv, hd, hs]
    · simp (disch := omega) [go_sem, ref52_Append.r, Fl.append, hg, apV, Fl.enc, encP, hv, hd, hs, wrap64_small, Rec.enc, Rec.cs]
  · simp [go_sem, ref52_Append.r, Fl.append, hg, apV, Fl.enc, encP, hv, hd]

def pagesFew (ps : List (List UInt8)) : Bool := ps.all fun p => decide (p.length ≤ 100)
def Fl.few (f : Fl) : Bool := decide (f.pages.length ≤ 20) && pagesFew f.pages
theorem few_ok (f : Fl) (hb : f.pages.length ≤ 9223372036854775807) : CallIs Try.prog 40 [f.enc] (.b f.few) := by
  refine PureC.is (pure_of mix ok_law52_few (Nat.le_of_ble_eq_true rfl) ?_) rfl
  unfold law52_few.c
  simp [go_sem, Fl.enc, encP]
  refine AS_loop (α := Nat) (fun k => k ≤ f.pages.length ∧ k ≤ 20 ∧ pagesFew (f.pages.take k) = true)
    (fun k => ⟨[(1, .p 0 1 0 0), (3, .i .i64 k)], [.arr 1 4 [[encP f.pages, .i .i64 f.fuse, .b f.dead, .i .i64 f.keep]]]⟩)
    (fun k => f.pages.length - k) 0 ⟨Nat.zero_le _, by omega, rfl⟩ ?_ ?_
  · simp [go_sem, encP]
  · rintro k ⟨hk, hk2, hok⟩
    by_cases hkl : k = f.pages.length
    · subst hkl
      rw [List.take_length] at hok
      simp [go_sem, encP, law52_few.r, Fl.few, hok, hk2]
    · have hlt : k < f.pages.length := by omega
      have hp : f.pages[k]? = some f.pages[k] := List.getElem?_eq_getElem hlt
      generalize f.pages[k] = p at hp
      obtain ⟨_, hp'⟩ := List.getElem?_eq_some_iff.1 hp
      by_cases h20 : k = 20
      · subst h20
        simp [go_sem, encP, law52_few.r, hlt, Fl.few]
        omega
      · by_cases h100 : p.length ≤ 100
        · simp (disch := omega) [go_sem, encP, hlt, hp', wrap64_small, show ¬ (20 : Int) ≤ k by omega, show ¬ (100 : Int) < p.length by omega]
          refine ⟨k + 1, ⟨by omega, by omega, ?_⟩, by omega, rfl⟩
          simp [pagesFew, List.take_add_one, hp, h100]
          simpa [pagesFew] using hok
        · have hf : pagesFew f.pages = false := by
            rw [Bool.eq_false_iff]
            intro h
            have := List.all_eq_true.1 h p (List.mem_of_getElem? hp)
            simp at this; omega
          simp (disch := omega) [go_sem, encP, hlt, hp', wrap64_small, show ¬ (20 : Int) ≤ k by omega, show (100 : Int) < p.length by omega, law52_few.r, Fl.few, hf]

theorem records_pure (l : List Rec) (hb : l.length ≤ 1000000) : PureC Try.prog 43 [rsV l, rsV l] (· = .b true) := by
  refine pure_of mix ok_law52_records (Nat.le_of_ble_eq_true rfl) ?_
  unfold law52_records.c
  simp [go_sem, rsV]
  refine AS_loop (α := Nat) (fun k => k ≤ l.length)
    (fun k => ⟨[(0, rsV l), (1, rsV l), (5, .i .i64 k)], []⟩)
    (fun k => l.length - k) 0 (Nat.zero_le _) ?_ ?_
  · simp [go_sem, rsV]
  · intro k hk
    by_cases hkl : k = l.length
    · subst hkl
      simp [go_sem, rsV, law52_records.r]
    · have hlt : k < l.length := by omega
      have hp : l[k]? = some l[k] := List.getElem?_eq_getElem hlt
      generalize l[k] = p at hp
      obtain ⟨_, hp'⟩ := List.getElem?_eq_some_iff.1 hp
      simp (disch := omega) [go_sem, rsV, hlt, hp', wrap64_small, Rec.cs]
      exact ⟨k + 1, by omega, by omega, rfl⟩
theorem records_ok (l : List Rec) (hb : l.length ≤ 1000000) : CallIs Try.prog 43 [rsV l, rsV l] (.b true) := PureC.is (records_pure l hb) rfl
end Go.Proofs.Ytedcbjgnidjidaa
