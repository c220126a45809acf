/- PROVED: FlashTorn returns true for every memory, index, data and numbers; no condition. -/
import Derived.Test.YtedcbjgnidjidaaFlRun
import Derived.Test.YtedcbjgnidjidaaFlP
import Derived.ProofKit
set_option linter.unusedVariables false
set_option linter.unusedSimpArgs false
namespace Go.Proofs.Ytedcbjgnidjidaa
open Go.Abs Go.RowKit

theorem heavy_len {x : Use} (h : x.heavy = false) : x.f.pages.length ≤ 259 := by
  simp [Use.heavy] at h
  omega

def Use.want (x : Use) : List UInt8 := if x.f.fuse = 1 then x.data.take x.f.keep.toNat ++ (x.f.page x.i).drop x.f.keep.toNat else x.data
def Use.after (x : Use) : Fl := ⟨x.f.pages.set x.i.toNat x.want, if x.f.fuse = 1 then 0 else if 0 < x.f.fuse - 1 then x.f.fuse - 1 else 0, decide (x.f.fuse = 1), if x.f.fuse = 1 then 0 else x.f.keep⟩

theorem write_torn {x : Use} (hv : x.f.valid = true) (hd : x.f.dead = false) (h0 : 0 ≤ x.i) (h1 : x.i < x.f.pages.length) (h2 : x.data.length = 64) :
    x.f.write x.i x.data = (x.after, if x.f.fuse = 1 then 17 else 0) := by
  have hh : x.f.has x.i = true := has_iff.2 ⟨hv, h0, h1⟩
  unfold Fl.write Use.after Use.want
  by_cases hf : x.f.fuse = 1 <;> simp [hh, h2, hd, hf]

theorem want_len {x : Use} (hv : x.f.valid = true) (h0 : 0 ≤ x.i) (h1 : x.i < x.f.pages.length) (h2 : x.data.length = 64) : x.want.length = 64 := by
  have := (page_len hv h0 h1).2
  have := valid_keep hv
  unfold Use.want
  split
  · simp; omega
  · exact h2

theorem valid_mk {ps : List (List UInt8)} {fuse keep : Int} {dead : Bool} (h1 : pagesOk ps = true) (h2 : 2 ≤ ps.length ∧ ps.length ≤ 256) (h3 : 0 ≤ fuse ∧ fuse ≤ 1048576) (h4 : 0 ≤ keep ∧ keep ≤ 64) : Fl.valid ⟨ps, fuse, dead, keep⟩ = true := by
  simp [Fl.valid, h1]; omega

theorem valid_pages {f : Fl} (h : f.valid = true) : pagesOk f.pages = true ∧ 2 ≤ f.pages.length ∧ f.pages.length ≤ 256 := by
  simp [Fl.valid] at h
  exact ⟨h.1, by omega, by omega⟩

theorem after_valid {x : Use} (hv : x.f.valid = true) (h0 : 0 ≤ x.i) (h1 : x.i < x.f.pages.length) (h2 : x.data.length = 64) : x.after.valid = true := by
  have hw := want_len hv h0 h1 h2
  have hp := valid_pages hv
  have hk := valid_keep hv
  refine valid_mk ?_ (by simpa using hp.2) ?_ ?_
  · have h3 := hp.1
    simp only [pagesOk, List.all_eq_true] at h3 ⊢
    intro p hp
    rcases List.mem_or_eq_of_mem_set hp with h | rfl
    · exact h3 p h
    · simp [hw]
  · by_cases hf : x.f.fuse = 1
    · rw [if_pos hf]; omega
    · rw [if_neg hf]; split <;> omega
  · by_cases hf : x.f.fuse = 1
    · rw [if_pos hf]; omega
    · rw [if_neg hf]; omega

set_option maxRecDepth 8000 in
set_option maxHeartbeats 4000000 in
theorem torn_ok (x : Use) (hb : x.f.pages.length ≤ 9223372036854775807) : PureC Try.prog 7 [x.enc] (· = .b true) := by
  refine pure_of mix ok7 (by simp) ?_
  unfold c7
  simp [go_sem, Use.enc, encP]
  refine ACall_is ((heavy_ok x).is rfl) ?_
  cases hh : x.heavy
  case true =>
    simp [go_sem]
    refine ACall_is (awake_ok.is rfl) ?_
    simp [go_sem, r7]
  have hl := heavy_len hh
  simp [go_sem]
  refine ACall_is ((valid_ok x.f (by omega)).is rfl) ?_
  cases hv : x.f.valid
  case false =>
    simp [go_sem]
    refine ACall_is (awake_ok.is rfl) ?_
    simp [go_sem, r7]
  have hk := valid_keep hv
  cases hd : x.f.dead
  case true =>
    simp [go_sem]
    refine ACall_is (awake_ok.is rfl) ?_
    simp [go_sem, r7]
  by_cases hi : 0 ≤ x.i
  case neg =>
    simp [go_sem, show x.i < 0 by omega]
    refine ACall_is (awake_ok.is rfl) ?_
    simp [go_sem, r7]
  by_cases hi2 : x.i < x.f.pages.length
  case neg =>
    simp [go_sem, show ¬ x.i < 0 by omega, show (x.f.pages.length : Int) ≤ x.i by omega]
    refine ACall_is (awake_ok.is rfl) ?_
    simp [go_sem, r7]
  by_cases hdl : x.data.length = 64
  case neg =>
    have hdl' : ((x.data.length : Int) != 64) = true := by simp; omega
    simp [go_sem, show ¬ x.i < 0 by omega, show ¬ (x.f.pages.length : Int) ≤ x.i by omega, hdl']
    refine ACall_is (awake_ok.is rfl) ?_
    simp [go_sem, r7]
  have hwl := want_len hv hi hi2 hdl
  have hav := after_valid hv hi hi2 hdl
  simp [go_sem, show ¬ x.i < 0 by omega, show ¬ (x.f.pages.length : Int) ≤ x.i by omega, hdl]
  have hw := (write_ok x.f x.i x.data (by omega)).is rfl
  rw [Fl.enc, encP, hd] at hw
  refine ACall_is hw ?_
  rw [write_torn hv hd hi hi2 hdl]
  have hpl := (page_len hv hi hi2).2
  have hlt : x.i.toNat < x.f.pages.length := by omega
  have hpi : x.f.page x.i = x.f.pages[x.i.toNat] := by simp [Fl.page, hlt]
  have hpl' : (x.f.pages[x.i.toNat]).length = 64 := by rw [← hpi, hpl]
  have hpp : x.after.pages.length = x.f.pages.length := by simp [Use.after]
  have hpw : x.after.power = ⟨x.after.pages, 0, false, 0⟩ := by simp [Fl.power, hav]
  have hpv : Fl.valid ⟨x.after.pages, 0, false, 0⟩ = true := by rw [← hpw, power_valid, hav]
  have hget : ∀ k : Nat, x.after.pages[k]? = if k = x.i.toNat then some x.want else x.f.pages[k]? := by
    intro k
    simp only [Use.after, List.getElem?_set]
    by_cases h : x.i.toNat = k
    · subst h; simp [hlt]
    · simp [h, Ne.symm h]
  /-have key : ∀ (w : List UInt8) (fuse : Int), w = x.want → ∀ (m : Nat → Int), AS Try.prog 0 lp7 ⟨[(1, .p 0 1 0 0), (3, .p 1 1 0 0), (5, .s x.want), (119, .i .i64 x.f.pages.length), (120, .i .i64 0)],
      [.arr 1 8 [[.l 1 (x.f.pages.map fun p => [.s p]), .i .i64 x.f.fuse, .b false, .i .i64 x.f.keep, .i .i64 x.i, .s x.data, .i .i64 x.n, .i .i64 x.keep]],
       .arr 1 4 [[.l 1 (x.after.pages.map fun p => [.s p]), .i .i64 0, .b false, .i .i64 0]]]⟩ (Done r7 fun x => x = V.b true) := by
    sorry-/
  by_cases hf : x.f.fuse = 1
  · have hdd : x.after.dead = true := by simp [Use.after, hf]
    simp [go_sem, hf, Fl.enc, encP, hdl, hk.1, hk.2.1, hi, hi2, hlt, hpl', show min x.f.keep.toNat 64 + (64 - x.f.keep.toNat) ≤ 9223372036854775807 by omega]
    refine ACall_is ((valid_ok x.after (by omega)).is rfl) ?_
    rw [hav]
    simp [go_sem, hdd, hpp]
    have hpc := (power_ok x.after (by omega)).is rfl
    rw [hpw, Fl.enc, encP, hdd] at hpc
    refine ACall_is hpc ?_
    simp [go_sem, Fl.enc, encP]
    refine AS_loop (α := Nat) (fun k => k ≤ x.f.pages.length)
      (fun k => ⟨[(1, .p 0 1 0 0), (3, .p 1 1 0 0), (5, .s x.want), (119, .i .i64 x.f.pages.length), (120, .i .i64 k)],
        [.arr 1 8 [[.l 1 (x.f.pages.map fun p => [.s p]), .i .i64 1, .b false, .i .i64 x.f.keep, .i .i64 x.i, .s x.data, .i .i64 x.n, .i .i64 x.keep]],
         .arr 1 4 [[.l 1 (x.after.pages.map fun p => [.s p]), .i .i64 0, .b false, .i .i64 0]]]⟩)
      (fun k => x.f.pages.length - k) 0 (Nat.zero_le _) ?_ ?_
    · simp [go_sem, Use.want, hf, hpi, List.take_of_length_le (show (x.f.pages[x.i.toNat]).length ≤ 64 by omega)]
    · intro k hk'
      by_cases hk2 : k < x.f.pages.length
      case neg =>
        obtain rfl : k = x.f.pages.length := by omega
        simp [go_sem]
        refine ACall_is (awake_ok.is rfl) ?_
        simp [go_sem, r7]
      have hk3 : k < x.after.pages.length := by omega
      simp [go_sem, hk2]
      refine ACall_is ((read_ok ⟨x.after.pages, 0, false, 0⟩ k (show x.after.pages.length ≤ 9223372036854775807 by omega)).is rfl) ?_
      have hhas : Fl.has ⟨x.after.pages, 0, false, 0⟩ k = true := has_iff.2 ⟨hpv, by omega, by simp only; omega⟩
      have hrd : Fl.read ⟨x.after.pages, 0, false, 0⟩ k = .t [.s (x.after.pages[k]?.getD []), .i .i64 0] := by simp [Fl.read, hhas]
      rw [hrd, hget k]
      by_cases hki : k = x.i.toNat
      · have hki' : (k : Int) = x.i := by omega
        have hkb : ((k : Int) == x.i) = true := by simpa using hki'
        have hkc : ((k : Int) != x.i) = false := by simp [hki']
        rw [if_pos hki]
        simp [go_sem, hkb, hkc]
        simp (disch := omega) [go_sem, wrap64_small]
        refine ⟨k + 1, by omega, by omega, ?_⟩
        simp [go_sem]
      · have hki' : ¬ (k : Int) = x.i := by omega
        have hkb : ((k : Int) == x.i) = false := by simpa using hki'
        have hkc : ((k : Int) != x.i) = true := by simp [hki']
        rw [if_neg hki]
        simp [go_sem, hk2, hkb, hkc]
        simp (disch := omega) [go_sem, wrap64_small]
        refine ⟨k + 1, by omega, by omega, ?_⟩
        simp [go_sem]
  · have hdd : x.after.dead = false := by simp [Use.after, hf]
    have hfb : (x.f.fuse == 1) = false := by simpa using hf
    simp [go_sem, hf, hfb, Fl.enc, encP, hdl, hk.1, hi, hi2, hlt]
    refine ACall_is ((valid_ok x.after (by omega)).is rfl) ?_
    rw [hav]
    simp [go_sem, hdd, hpp]
    have hpc := (power_ok x.after (by omega)).is rfl
    rw [hpw, Fl.enc, encP, hdd] at hpc
    refine ACall_is hpc ?_
    simp [go_sem, Fl.enc, encP]
    refine AS_loop (α := Nat) (fun k => k ≤ x.f.pages.length)
      (fun k => ⟨[(1, .p 0 1 0 0), (3, .p 1 1 0 0), (5, .s x.want), (119, .i .i64 x.f.pages.length), (120, .i .i64 k)],
        [.arr 1 8 [[.l 1 (x.f.pages.map fun p => [.s p]), .i .i64 x.f.fuse, .b false, .i .i64 x.f.keep, .i .i64 x.i, .s x.data, .i .i64 x.n, .i .i64 x.keep]],
         .arr 1 4 [[.l 1 (x.after.pages.map fun p => [.s p]), .i .i64 0, .b false, .i .i64 0]]]⟩)
      (fun k => x.f.pages.length - k) 0 (Nat.zero_le _) ?_ ?_
    · simp [go_sem, Use.want, hf]
    · intro k hk'
      by_cases hk2 : k < x.f.pages.length
      case neg =>
        obtain rfl : k = x.f.pages.length := by omega
        simp [go_sem]
        refine ACall_is (awake_ok.is rfl) ?_
        simp [go_sem, r7]
      have hk3 : k < x.after.pages.length := by omega
      simp [go_sem, hk2]
      refine ACall_is ((read_ok ⟨x.after.pages, 0, false, 0⟩ k (show x.after.pages.length ≤ 9223372036854775807 by omega)).is rfl) ?_
      have hhas : Fl.has ⟨x.after.pages, 0, false, 0⟩ k = true := has_iff.2 ⟨hpv, by omega, by simp only; omega⟩
      have hrd : Fl.read ⟨x.after.pages, 0, false, 0⟩ k = .t [.s (x.after.pages[k]?.getD []), .i .i64 0] := by simp [Fl.read, hhas]
      rw [hrd, hget k]
      by_cases hki : k = x.i.toNat
      · have hki' : (k : Int) = x.i := by omega
        have hkb : ((k : Int) == x.i) = true := by simpa using hki'
        have hkc : ((k : Int) != x.i) = false := by simp [hki']
        rw [if_pos hki]
        simp [go_sem, hkb, hkc]
        simp (disch := omega) [go_sem, wrap64_small]
        refine ⟨k + 1, by omega, by omega, ?_⟩
        simp [go_sem]
      · have hki' : ¬ (k : Int) = x.i := by omega
        have hkb : ((k : Int) == x.i) = false := by simpa using hki'
        have hkc : ((k : Int) != x.i) = true := by simp [hki']
        rw [if_neg hki]
        simp [go_sem, hk2, hkb, hkc]
        simp (disch := omega) [go_sem, wrap64_small]
        refine ⟨k + 1, by omega, by omega, ?_⟩
        simp [go_sem]
set_option maxRecDepth 100000 in
theorem flashTorn_lifted (os : Os) (started : os.Started) (H : Type) (enc : TypeId × Value → H) :
    ReturnsInHanded {} Try.checked os 7 .any (Rows.flashTornSpec.pre6 enc Try.prog Try.f7 Rows.flashTornRow.domain false) (Rows.flashTornSpec.post enc Try.prog Try.f7 false true false false) := by
  refine returnsInHanded_of_change (C := Try.checked) own started (by kernel_rfl) Try.func7
    (ChangeSpec.witness6 (enc := enc) (C := Try.checked) false ⟨#[], #[.agg #[.slice none 0 0, .int .i64 0, .bool false, .int .i64 0, .int .i64 0, .string ⟨#[]⟩, .int .i64 0, .int .i64 0]], []⟩ 8 (by kernel_rfl) (by kernel_rfl) (by kernel_rfl) (by kernel_rfl)) ?_
  intro W base args ds gs before hval0 hW0 _ _
  have hval : ∀ (j : Nat) t v, Try.f7.params[j]? = some t → args[j]? = some v → Value.okWide Try.prog W .any base t v := hval0
  have hW : DataW.Whole enc Try.prog Try.f7.params.toList Rows.flashTornSpec.vars false W args.toList ds gs before := hW0
  refine law_contract (tb := 4) (pars := [(true, useSch)]) laid rfl (by kernel_rfl) Try.underlying4 (by kernel_rfl) (by kernel_rfl) (fun ds h => ?_) (fun us hus => ?_) W base args ds gs before hval hW
  · match ds, h with
    | [d], _ => rfl
  · obtain ⟨x, rfl, hb⟩ := use_of hus
    exact torn_ok x hb

theorem flashTorn : Rows.FlashTornSaid :=
  OpenClaim.holds_of_wide 7 Try.f7 rfl rfl rfl rfl rfl rfl rfl ⟨rfl, rfl, rfl, rfl, rfl⟩ rfl rfl rfl rfl rfl (by kernel_rfl) Try.func7 (by kernel_rfl)
    (of_decide_eq_true (by kernel_rfl)) (by unfold Func.isWrapper; first | (rw [if_pos (by decide +kernel)]; kernel_rfl) | (rw [if_neg (by decide +kernel)]; exact ⟨rfl, rfl⟩))
    (fun os started H enc _ => flashTorn_lifted os started H enc)
end Go.Proofs.Ytedcbjgnidjidaa
