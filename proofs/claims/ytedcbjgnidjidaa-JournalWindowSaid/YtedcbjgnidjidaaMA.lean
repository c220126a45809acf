/- What All of the journal does to values. -/
import Derived.Test.YtedcbjgnidjidaaMCon
import Derived.Test.YtedcbjgnidjidaaGoJt
import Derived.Test.YtedcbjgnidjidaaGoHeap
set_option linter.unusedVariables false
set_option linter.unusedSimpArgs false
namespace Go.Proofs.Ytedcbjgnidjidaa
open Go.Abs Go.Sort

theorem kCmp : CmpC Try.prog 69 := Compare_ok mix ok_cmp_Compare_int (isNaN_ok mix ok_cmp_isNaN_int)
def Fl.recs (f : Fl) : List Rec := recsK f.pages f.pages.length
def Fl.all (f : Fl) : List Rec := if f.valid = true ∧ f.dead = false then srt f.recs else []
def rsV (l : List Rec) : V := .l 12 (l.map Rec.cs)

theorem rec_isD (r : Rec) : (∀ y ∈ r.cs, y.isD = true) = True := by simp [Rec.cs, V.isD]
theorem rec_cl (r : Rec) (n : Nat) : (∀ y ∈ r.cs, y.cl n = true) = True := by simp [Rec.cs, V.cl, V.cl1, V.cl0]
theorem valid_parts {f : Fl} (h : f.valid = true) : pagesOk f.pages = true ∧ 2 ≤ f.pages.length ∧ f.pages.length ≤ 256 := by
  simp only [Fl.valid, Bool.and_eq_true, decide_eq_true_eq] at h
  exact ⟨h.1, by omega, by omega⟩
theorem pagesOk_get {ps : List (List UInt8)} (h : pagesOk ps = true) {i : Nat} {p : List UInt8} (hp : ps[i]? = some p) : p.length = 64 := by
  have := List.all_eq_true.1 h p (List.mem_of_getElem? hp)
  simpa using this

set_option maxHeartbeats 4000000 in
theorem all_ok (f : Fl) (hb : f.pages.length ≤ 8796093022208) : CallIs Try.prog 44 [f.enc] (rsV f.all) := by
  by_cases hv : f.valid = true ∧ f.dead = false
  case neg =>
    have he : f.all = [] := by simp [Fl.all, hv]
    rw [he]
    refine CallIs.res (r := .nil) ?_ (.inl (.inl (Le0.nil 12)))
    refine PureC.is (pure_of mix ok_journal_All (Nat.le_of_ble_eq_true rfl) ?_) rfl
    unfold journal_All.c
    simp [go_sem, Fl.enc, encP]
    refine ACall_is ((valid_ok f (by omega)).is rfl) ?_
    cases h1 : f.valid <;> cases h2 : f.dead <;> simp [h1, h2] at hv <;> simp [go_sem, h2, journal_All.r]
  obtain ⟨hv, hd⟩ := hv
  obtain ⟨hpo, hn2, hn⟩ := valid_parts hv
  have he : f.all = srt f.recs := by simp [Fl.all, hv, hd]
  rw [he]
  refine PureC.is (pure_of mix ok_journal_All (Nat.le_of_ble_eq_true rfl) ?_) rfl
  unfold journal_All.c
  simp [go_sem, Fl.enc, encP]
  refine ACall_is ((valid_ok f (by omega)).is rfl) ?_
  simp [go_sem, hv, hd]
  refine AS_loopG [.t 3 12] (α := Nat) (fun k => k ≤ f.pages.length)
    (fun k => ⟨[(1, .p 0 1 0 0), (3, .own 1 ((recsK f.pages k).length + 1) 0 (recsK f.pages k).length), (16, encP f.pages), (17, .i .i64 f.pages.length), (18, .i .i64 k)],
      [.arr 1 4 [[encP f.pages, .i .i64 f.fuse, .b f.dead, .i .i64 f.keep]], .arr ((recsK f.pages k).length + 1) 12 ((recsK f.pages k).map Rec.cs)]⟩)
    (fun k => f.pages.length - k) 0 (Nat.zero_le _) ?_ ?_
  · simp [go_sem, encP, hd, recsK]
  · intro k hk
    have hrl := recsK_len f.pages k
    by_cases hkl : k = f.pages.length
    · subst hkl
      simp [go_sem, encP, hd]
      obtain ⟨ys, hperm, hup, hcall⟩ := kSort Rec.ints (fun _ => rfl) cmpR swoR 68 (by kernel_rfl) (All_1_ok mix ok_journal_All_1 kCmp) (recsK f.pages f.pages.length) (by omega)
      have hys : ys = srt f.recs := srt_unique (recsK_dis _ _) hperm (hup.imp (by intro a b h; rw [ltR] at h; simpa using h))
      have hx : f.recs.map (fun x => x.ints.map (V.i .i64)) = f.recs.map Rec.cs := rfl
      refine ACall_to (hcall _ 1 _ rfl) ?_
      have hl2 : ys.length = f.recs.length := hperm.length_eq
      have hy2 : ys.map (fun x => x.ints.map (V.i .i64)) = ys.map Rec.cs := rfl
      rw [hy2, hys]
      have hl3 : (recsK f.pages f.pages.length).length = f.recs.length := rfl
      have ht : List.take f.recs.length ((srt f.recs).map Rec.cs) = (srt f.recs).map Rec.cs := List.take_of_length_le (by simp [srt_len])
      simp [go_sem, journal_All.r, rsV, rec_isD, srt_len, hl3, ht]
    · have hlt : k < f.pages.length := by omega
      have hp : f.pages[k]? = some f.pages[k] := List.getElem?_eq_getElem hlt
      generalize f.pages[k] = p at hp
      obtain ⟨_, hp'⟩ := List.getElem?_eq_some_iff.1 hp
      have hpl := pagesOk_get hpo hp
      simp [go_sem, encP, hlt, hp', hd]
      refine ACall_is (kDecode p (by omega)) ?_
      have hsucc := recsK_succ hp
      rcases hde : decR p with ⟨r, e⟩
      by_cases h0 : e = 0
      · subst h0
        have hn0 : ¬ f.pages = [] := by rintro h; rw [h] at hn2; simp at hn2
        by_cases hi : r.seq.tmod f.pages.length = k
        · have hra : recAt f.pages.length k p = some r := by simp [recAt, hde, hi]
          rw [hra] at hsucc
          simp (disch := omega) [go_sem, decV, Rec.enc, Rec.cs, hde, hn0, hi, wrap64_small]
          refine ⟨by omega, k + 1, by omega, by omega, by simp [hsucc], by simp [hsucc], ?_⟩
          rw [hsucc, List.take_of_length_le (by simp)]
          simp [Rec.cs]
        · have hra : recAt f.pages.length k p = none := by simp [recAt, hde, hi]
          rw [hra] at hsucc
          simp (disch := omega) [go_sem, decV, Rec.enc, Rec.cs, hde, hn0, hi, wrap64_small]
          exact ⟨k + 1, by omega, by omega, by simp [hsucc], by simp [hsucc]⟩
      · have hra : recAt f.pages.length k p = none := by simp [recAt, hde, h0]
        rw [hra] at hsucc
        have h0' : (e == 0) = false := by simpa using h0
        simp (disch := omega) [go_sem, decV, Rec.enc, Rec.cs, hde, h0, h0', wrap64_small]
        exact ⟨k + 1, by omega, by omega, by simp [hsucc], by simp [hsucc]⟩
end Go.Proofs.Ytedcbjgnidjidaa
