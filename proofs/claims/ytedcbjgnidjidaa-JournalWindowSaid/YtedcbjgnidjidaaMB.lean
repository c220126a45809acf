/- What All of the journal's reference does to values. -/
import Derived.Test.YtedcbjgnidjidaaMA
set_option linter.unusedVariables false
set_option linter.unusedSimpArgs false
namespace Go.Proofs.Ytedcbjgnidjidaa
open Go.Abs Go.Sort

def insAt (out : List Rec) (r : Rec) (j : Nat) : List Rec := out.take j ++ r :: out.drop j
theorem insAt_len (out : List Rec) (r : Rec) {j : Nat} (h : j ≤ out.length) : (insAt out r j).length = out.length + 1 := by simp [insAt]; omega
theorem insAt_end (out : List Rec) (r : Rec) : insAt out r out.length = out ++ [r] := by simp [insAt]
theorem insAt_perm (out : List Rec) (r : Rec) (j : Nat) : (insAt out r j).Perm (out ++ [r]) := by
  refine List.perm_middle.trans ?_
  rw [List.take_append_drop]
  exact (List.perm_append_singleton r out).symm
theorem insAt_get (out : List Rec) (r : Rec) {j : Nat} (h : j ≤ out.length) : (insAt out r j)[j]? = some r := by
  rw [insAt, List.getElem?_append_right (by simp; omega)]; simp; rw [show j - min j out.length = 0 by omega]; rfl
theorem insAt_prev (out : List Rec) (r : Rec) {j : Nat} (h : j < out.length) : (insAt out r (j + 1))[j]? = some out[j] := by
  rw [insAt, List.getElem?_append_left (by simp; omega), List.getElem?_take, if_pos (by omega), List.getElem?_eq_getElem h]
theorem insAt_swap (out : List Rec) (r : Rec) {j : Nat} (h : j < out.length) : ((insAt out r (j + 1)).set (j + 1) out[j]).set j r = insAt out r j := by
  have h1 : out.take (j + 1) = out.take j ++ [out[j]] := by rw [List.take_add_one, List.getElem?_eq_getElem h]; rfl
  have h2 : out.drop j = out[j] :: out.drop (j + 1) := List.drop_eq_getElem_cons h
  have h3 : (out.take j).length = j := by simp; omega
  simp only [insAt]
  rw [h1, h2, List.append_assoc, List.set_append_right _ _ (by omega), List.set_append_right _ _ (by omega), h3]
  simp
theorem insAt_up {out : List Rec} {r : Rec} {j : Nat} (hu : seqUp out) (h1 : ∀ b ∈ out.drop j, r.seq < b.seq) (h2 : ∀ a ∈ out.take j, a.seq ≤ r.seq) : seqUp (insAt out r j) := by
  unfold seqUp insAt
  have hu' : seqUp (out.take j ++ out.drop j) := by rw [List.take_append_drop]; exact hu
  have hu'' := List.pairwise_append.1 hu'
  rw [List.pairwise_append]
  refine ⟨hu''.1, List.pairwise_cons.2 ⟨fun b hb => by have := h1 b hb; omega, hu''.2.1⟩, fun a ha b hb => ?_⟩
  rcases List.mem_cons.1 hb with rfl | hb
  · exact h2 a ha
  · exact hu''.2.2 a ha b hb
theorem up_take {out : List Rec} {j : Nat} (hu : seqUp out) (h : j < out.length) {x : Int} (hx : out[j].seq ≤ x) : ∀ a ∈ out.take (j + 1), a.seq ≤ x := by
  intro a ha
  have h1 : out.take (j + 1) = out.take j ++ [out[j]] := by rw [List.take_add_one, List.getElem?_eq_getElem h]; rfl
  have hu' : seqUp (out.take (j + 1)) := List.Pairwise.sublist (List.take_sublist _ _) hu
  rw [h1] at ha hu'
  have := List.pairwise_append.1 hu'
  rcases List.mem_append.1 ha with h3 | h3
  · have := this.2.2 a h3 out[j] (by simp); omega
  · simp at h3; subst h3; exact hx

set_option maxHeartbeats 8000000 in
theorem rall_ok (f : Fl) (hb : f.pages.length ≤ 8796093022208) : CallIs Try.prog 45 [f.enc] (rsV f.all) := by
  by_cases hv : f.valid = true ∧ f.dead = false
  case neg =>
    have he : f.all = [] := by simp [Fl.all, hv]
    rw [he]
    refine CallIs.res (r := .nil) ?_ (.inl (.inl (Le0.nil 12)))
    refine PureC.is (pure_of mix ok_ref52_All (Nat.le_of_ble_eq_true rfl) ?_) rfl
    unfold ref52_All.c
    simp [go_sem, Fl.enc, encP]
    refine ACall_is ((rvalid_ok f (by omega)).is rfl) ?_
    cases h1 : f.valid <;> cases h2 : f.dead <;> simp [h1, h2] at hv <;> simp [go_sem, h2, ref52_All.r]
  obtain ⟨hv, hd⟩ := hv
  obtain ⟨hpo, hn2, hn⟩ := valid_parts hv
  have he : f.all = srt f.recs := by simp [Fl.all, hv, hd]
  rw [he]
  refine PureC.is (pure_of mix ok_ref52_All (Nat.le_of_ble_eq_true rfl) ?_) rfl
  unfold ref52_All.c
  simp [go_sem, Fl.enc, encP]
  refine ACall_is ((rvalid_ok f (by omega)).is rfl) ?_
  simp [go_sem, hv, hd]
  have hn0 : ¬ f.pages = [] := by rintro h; rw [h] at hn2; simp at hn2
  refine AS_loopG [.t 3 12] (α := Nat × List Rec) (fun p => p.1 ≤ f.pages.length ∧ p.2.Perm (recsK f.pages p.1) ∧ seqUp p.2)
    (fun p => ⟨[(1, .p 0 1 0 0), (3, .own 1 (p.2.length + 1) 0 p.2.length), (4, .i .i64 p.1)],
      [.arr 1 4 [[encP f.pages, .i .i64 f.fuse, .b f.dead, .i .i64 f.keep]], .arr (p.2.length + 1) 12 (p.2.map Rec.cs)]⟩)
    (fun p => f.pages.length - p.1) (0, []) ⟨Nat.zero_le _, by simp [recsK], by simp [seqUp]⟩ ?_ ?_
  · simp [go_sem, encP, hd]
  · rintro ⟨k, out⟩ ⟨hk, hperm, hup⟩
    simp only at hk hperm hup
    have hrl := recsK_len f.pages k
    have hol := hperm.length_eq
    by_cases hkl : k = f.pages.length
    · subst hkl
      have hys : out = srt f.recs := srt_unique (recsK_dis _ _) hperm hup
      have ht : List.take out.length (out.map Rec.cs) = out.map Rec.cs := List.take_of_length_le (by simp)
      simp [go_sem, encP, hd, ref52_All.r, rsV, rec_isD, ht]
      rw [hys]
    · have hlt : k < f.pages.length := by omega
      have hp : f.pages[k]? = some f.pages[k] := List.getElem?_eq_getElem hlt
      generalize f.pages[k] = p at hp
      obtain ⟨_, hp'⟩ := List.getElem?_eq_some_iff.1 hp
      have hpl := pagesOk_get hpo hp
      simp [go_sem, encP, hlt, hp', hd]
      refine ACall_is (rDecode p (by omega)) ?_
      have hsucc := recsK_succ hp
      rcases hde : decR p with ⟨r, e⟩
      by_cases h0 : e = 0
      · subst h0
        by_cases hi : r.seq.tmod f.pages.length = k
        · have hra : recAt f.pages.length k p = some r := by simp [recAt, hde, hi]
          rw [hra] at hsucc
          simp only [Option.toList] at hsucc
          have ht : List.take out.length (out.map Rec.cs) = out.map Rec.cs := List.take_of_length_le (by simp)
          simp (disch := omega) [go_sem, decV, Rec.enc, Rec.cs, hde, hn0, hi, wrap64_small]
          refine ⟨by omega, ?_⟩
          refine AS_loop (α := Nat) (fun j => j ≤ out.length ∧ ∀ b ∈ out.drop j, r.seq < b.seq)
            (fun j => ⟨[(1, .p 0 1 0 0), (3, .own 1 (out.length + 2) 0 (out.length + 1)), (4, .i .i64 k), (7, .i .i64 j)],
              [.arr 1 4 [[encP f.pages, .i .i64 f.fuse, .b f.dead, .i .i64 f.keep]], .arr (out.length + 2) 12 ((insAt out r j).map Rec.cs)]⟩)
            (fun j => j) out.length ⟨Nat.le_refl _, by simp⟩ ?_ ?_
          · simp [go_sem, encP, hd, insAt_end]
            refine ⟨⟨ht, rfl⟩, ?_⟩
            rintro el (⟨a, _, rfl⟩ | rfl) x hx
            · exact of_eq_true (rec_cl a 2) x hx
            · exact of_eq_true (rec_cl r 2) x hx
          · rintro j ⟨hj, hdr⟩
            have hfin : (∀ a ∈ out.take j, a.seq ≤ r.seq) → (insAt out r j).Perm (recsK f.pages (k + 1)) ∧ seqUp (insAt out r j) := fun h2 =>
              ⟨by rw [hsucc]; exact (insAt_perm out r j).trans (hperm.append_right [r]), insAt_up hup hdr h2⟩
            have hIl := insAt_len out r hj
            cases j with
            | zero =>
              simp (disch := omega) [go_sem, encP, hd, wrap64_small]
              obtain ⟨f1, f2⟩ := hfin (by simp)
              exact ⟨k + 1, insAt out r 0, ⟨by omega, f1, f2⟩, by omega, by omega, by simp [hIl, rec_cl]⟩
            | succ j =>
              have hjl : j < out.length := by omega
              have hg1 : ∀ h, (insAt out r (j + 1))[j + 1]'h = r := fun h => (List.getElem_eq_iff h).2 (insAt_get out r hj)
              have hg0 : ∀ h, (insAt out r (j + 1))[j]'h = out[j] := fun h => (List.getElem_eq_iff h).2 (insAt_prev out r hjl)
              have hsw := insAt_swap out r hjl
              have hdj : out.drop j = out[j] :: out.drop (j + 1) := List.drop_eq_getElem_cons hjl
              by_cases hlt2 : r.seq < out[j].seq
              · simp (disch := omega) [go_sem, encP, hd, wrap64_small, hIl, hg1, hg0, Rec.cs, hlt2, hj]
                refine ⟨⟨by omega, hjl⟩, j, ⟨by omega, ?_⟩, by omega, rfl, ?_⟩
                · intro b hb
                  rw [hdj] at hb
                  rcases List.mem_cons.1 hb with rfl | hb
                  · exact hlt2
                  · exact hdr b hb
                · rw [← hsw, List.map_set, List.map_set]; rfl
              · obtain ⟨f1, f2⟩ := hfin (up_take hup hjl (by omega))
                simp (disch := omega) [go_sem, encP, hd, wrap64_small, hIl, hg1, hg0, Rec.cs, hlt2, hj]
                exact ⟨⟨by omega, hjl⟩, k + 1, insAt out r (j + 1), ⟨by omega, f1, f2⟩, by omega, ⟨by omega, rfl⟩, by omega, rfl⟩
        · have hra : recAt f.pages.length k p = none := by simp [recAt, hde, hi]
          rw [hra] at hsucc
          simp (disch := omega) [go_sem, decV, Rec.enc, Rec.cs, hde, hn0, hi, wrap64_small]
          exact ⟨k + 1, out, ⟨by omega, by simpa [hsucc] using hperm, hup⟩, by omega, by omega, rfl, rfl⟩
      · have hra : recAt f.pages.length k p = none := by simp [recAt, hde, h0]
        rw [hra] at hsucc
        have h0' : (e != 0) = true := by simpa using h0
        simp (disch := omega) [go_sem, decV, Rec.enc, Rec.cs, hde, h0, h0', wrap64_small]
        exact ⟨k + 1, out, ⟨by omega, by simpa [hsucc] using hperm, hup⟩, by omega, by omega, rfl, rfl⟩
end Go.Proofs.Ytedcbjgnidjidaa
