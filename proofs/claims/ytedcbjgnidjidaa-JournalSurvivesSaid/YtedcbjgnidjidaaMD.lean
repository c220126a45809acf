/- The statements JournalReads and JournalAppends, by values. -/
import Derived.Test.YtedcbjgnidjidaaMC
set_option linter.unusedVariables false
set_option linter.unusedSimpArgs false
namespace Go.Proofs.Ytedcbjgnidjidaa
open Go.Abs Go.Sort

def flSch : List Sch := [.sl [.s], .i .i64, .b, .i .i64]
theorem pages_of' : ∀ els : List (List V), (∀ e ∈ els, okL [.s] e) → ∃ ps : List (List UInt8), els = ps.map fun p => [.s p]
  | [], _ => ⟨[], rfl⟩
  | e :: els, h => by
    obtain ⟨ps, rfl⟩ := pages_of' els (fun e he => h e (by simp [he]))
    have := h e (by simp)
    simp only [okL, Sch.ok] at this
    obtain ⟨v, r, rfl, ⟨p, rfl, _⟩, rfl⟩ := this
    exact ⟨p :: ps, rfl⟩
theorem par_fl {ps : List (Bool × List Sch)} {us : List V} (h : okPars ((true, flSch) :: ps) us) : ∃ (f : Fl) (r : List V), us = f.enc :: r ∧ f.pages.length ≤ 9223372036854775807 ∧ okPars ps r := by
  simp only [okPars, okPar] at h
  obtain ⟨v, r, rfl, ⟨cs, rfl, hc⟩, hr⟩ := h
  simp only [flSch, okL, Sch.ok] at hc
  obtain ⟨v1, r1, rfl, ⟨els, rfl, hl, he⟩, v2, r2, rfl, ⟨fuse, rfl, _⟩, v3, r3, rfl, ⟨dead, rfl⟩, v4, r4, rfl, ⟨keep, rfl, _⟩, rfl⟩ := hc
  obtain ⟨ps, rfl⟩ := pages_of' els he
  exact ⟨⟨ps, fuse, dead, keep⟩, r, rfl, by simpa using hl, hr⟩

theorem few_len {f : Fl} (h : f.few = true) : f.pages.length ≤ 20 := by
  simp [Fl.few] at h; exact h.1

set_option maxHeartbeats 2000000 in
theorem JournalReads_ok (f : Fl) (hb : f.pages.length ≤ 9223372036854775807) : PureC Try.prog 13 [f.enc] (· = .b true) := by
  refine pure_of mix ok_law52_JournalReads (Nat.le_of_ble_eq_true rfl) ?_
  unfold law52_JournalReads.c
  simp [go_sem, Fl.enc, encP]
  refine ACall_is (few_ok f hb) ?_
  cases hw : f.few
  · simp [go_sem]
    refine ACall_is awake52 ?_
    simp [go_sem, law52_JournalReads.r]
  have hl := few_len hw
  have hal := all_len f
  simp [go_sem]
  refine ACall_is (last_ok f (by omega)) ?_
  simp [go_sem, Rec.enc, Rec.cs]
  refine ACall_is (rlast_ok f (by omega)) ?_
  simp [go_sem, Rec.enc, Rec.cs]
  refine DCall_is (all_ok f (by omega)) ?_
  simp [go_sem]
  refine DCall_is (rall_ok f (by omega)) ?_
  simp [go_sem]
  refine DCall_is (records_ok f.all (by omega)) ?_
  simp [go_sem]
  refine DCall_is awake52 ?_
  simp [go_sem, law52_JournalReads.r]

theorem write_pages (f : Fl) (i : Int) (d : List UInt8) : (f.write i d).1.pages.length = f.pages.length := by
  unfold Fl.write
  split
  · split
    · rfl
    · split <;> simp
  · rfl
theorem append_pages (f : Fl) (r : Rec) : (f.append r).1.pages.length = f.pages.length := by
  unfold Fl.append
  split
  · rfl
  · split
    · rfl
    · split
      · rfl
      · exact write_pages _ _ _

set_option maxHeartbeats 2000000 in
theorem JournalAppends_ok (f : Fl) (hb : f.pages.length ≤ 9223372036854775807) (r : Rec) : PureC Try.prog 14 [f.enc, r.enc] (· = .b true) := by
  refine pure_of mix ok_law52_JournalAppends (Nat.le_of_ble_eq_true rfl) ?_
  unfold law52_JournalAppends.c
  simp [go_sem, Fl.enc, encP, Rec.enc, Rec.cs]
  refine ACall_is (few_ok f hb) ?_
  cases hw : f.few
  · simp [go_sem]
    refine ACall_is awake52 ?_
    simp [go_sem, law52_JournalAppends.r]
  have hl := few_len hw
  simp [go_sem]
  refine ACall_is (append_ok f r (by omega)) ?_
  simp [go_sem, apV, Fl.enc, encP]
  refine ACall_is (rappend_ok f r (by omega)) ?_
  simp [go_sem, apV, Fl.enc, encP]
  have hap := append_pages f r
  refine ACall_is ((same_ok (f.append r).1 (by omega)).is rfl) ?_
  simp [go_sem]
  refine ACall_is awake52 ?_
  simp [go_sem, law52_JournalAppends.r]
end Go.Proofs.Ytedcbjgnidjidaa
