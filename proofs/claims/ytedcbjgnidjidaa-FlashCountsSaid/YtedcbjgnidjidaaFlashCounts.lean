/- PROVED: FlashCounts returns true for every memory, index, data and numbers; no condition. -/
import Derived.Test.YtedcbjgnidjidaaFlRun
import Derived.Test.YtedcbjgnidjidaaFlP
import Derived.ProofKit
set_option linter.unusedVariables false
set_option linter.unusedSimpArgs false
namespace Go.Proofs.Ytedcbjgnidjidaa
open Go.Abs Go.RowKit

theorem heavy_len {x : Use} (h : x.heavy = false) : x.f.pages.length ≤ 259 := by
  simp [Use.heavy] at h
  omega
theorem valid_mk {ps : List (List UInt8)} {fuse keep : Int} {dead : Bool} (h1 : pagesOk ps = true) (h2 : 2 ≤ ps.length ∧ ps.length ≤ 256) (h3 : 0 ≤ fuse ∧ fuse ≤ 1048576) (h4 : 0 ≤ keep ∧ keep ≤ 64) : Fl.valid ⟨ps, fuse, dead, keep⟩ = true := by
  simp [Fl.valid, h1]; omega
theorem valid_pages {f : Fl} (h : f.valid = true) : pagesOk f.pages = true ∧ 2 ≤ f.pages.length ∧ f.pages.length ≤ 256 := by
  simp [Fl.valid] at h
  exact ⟨h.1, by omega, by omega⟩
theorem pagesOk_set {ps : List (List UInt8)} {i : Nat} {d : List UInt8} (h : pagesOk ps = true) (hd : d.length = 64) : pagesOk (ps.set i d) = true := by
  simp only [pagesOk, List.all_eq_true] at h ⊢
  intro p hp
  rcases List.mem_or_eq_of_mem_set hp with h1 | rfl
  · exact h p h1
  · simp [hd]

theorem rep_step (k : Nat) (x y : List V) (hk : k < 64) : (List.replicate k x ++ List.replicate (64 - k) y).set k x = List.replicate (k + 1) x ++ List.replicate (64 - (k + 1)) y := by
  apply List.ext_getElem?
  intro j
  rw [List.getElem?_set]
  simp only [List.getElem?_append, List.getElem?_replicate, List.length_replicate, List.length_append]
  by_cases h1 : k = j
  · subst h1; simp; omega
  · simp only [h1, if_false]
    by_cases h2 : j < k
    · simp [h2, show j < k + 1 by omega]
    · simp only [h2, if_false, show ¬ j < k + 1 by omega]
      split <;> split <;> first | rfl | omega

theorem filled_ok (b : UInt8) : CallIs Try.prog 32 [.i .u8 (b.toNat : Int)] (.s (List.replicate 64 b)) := by
  refine PureC.is (pure_of mix ok32 (by simp) ?_) rfl
  unfold c32
  simp [go_sem, -List.reduceReplicate]
  refine AS_loop (α := Nat) (fun k => k ≤ 64) (fun k => ⟨[(0, .i .u8 (b.toNat : Int)), (3, .own 0 1 0 64), (7, .i .i64 64), (8, .i .i64 k)], [.arr 1 1 (List.replicate k [.i .u8 (b.toNat : Int)] ++ List.replicate (64 - k) [.i .u8 0])]⟩)
    (fun k => 64 - k) 0 (Nat.zero_le _) ?_ ?_
  · simp [go_sem, -List.reduceReplicate]
  · intro k hk
    by_cases hk2 : k < 64
    case neg =>
      obtain rfl : k = 64 := by omega
      simp [go_sem, r32, bytesOf_replicate, -List.reduceReplicate]
    have hg : (List.replicate k [V.i .u8 (b.toNat : Int)] ++ List.replicate (64 - k) [.i .u8 0])[k]? = some [.i .u8 0] := by
      rw [List.getElem?_append_right (by simp)]; simp only [List.length_replicate, Nat.sub_self, List.getElem?_replicate]; rw [if_pos (by omega)]
    have hl : (List.replicate k [V.i .u8 (b.toNat : Int)] ++ List.replicate (64 - k) [V.i .u8 0]).length = 64 := by simp; omega
    have hs := rep_step k [V.i .u8 (b.toNat : Int)] [.i .u8 0] hk2
    generalize hE : List.replicate k [V.i .u8 (b.toNat : Int)] ++ List.replicate (64 - k) [V.i .u8 0] = E at *
    have hlt : k < E.length := by omega
    have hg' : E[k] = [.i .u8 0] := Option.some.inj ((List.getElem?_eq_getElem hlt).symm.trans hg)
    simp [go_sem, -List.reduceReplicate, hk2, show (k : Int) < 64 by omega, hg, hl, hs, hlt, hg']
    simp (disch := omega) [go_sem, wrap64_small, -List.reduceReplicate]
    refine ⟨k + 1, by omega, by omega, ?_⟩
    simp [go_sem, -List.reduceReplicate]

def Use.flash (x : Use) (k : Nat) (ps : List (List UInt8)) : Fl := if (k : Int) ≤ x.n then ⟨ps, x.n - k + 1, false, max 0 (min x.keep 64)⟩ else ⟨ps, 0, true, 0⟩

theorem flash_pages (x : Use) (k : Nat) (ps : List (List UInt8)) : (x.flash k ps).pages = ps := by unfold Use.flash; split <;> rfl

theorem flash_write {x : Use} (hd : x.f.dead = false) (hv : x.f.valid = true) (hn : 1 ≤ x.n) (hn2 : x.n ≤ 30) {k : Nat} {ps : List (List UInt8)} {i : Int} {d : List UInt8} (h1 : 1 ≤ k) (h3 : pagesOk ps = true) (h4 : ps.length = x.f.pages.length)
    (hi : 0 ≤ i) (hi2 : i < x.f.pages.length) (hdl : d.length = 64) :
    ∃ ps', (x.flash k ps).write i d = (x.flash (k + 1) ps', if (k : Int) < x.n then 0 else 17) ∧ pagesOk ps' = true ∧ ps'.length = x.f.pages.length := by
  have hp := valid_pages hv
  have hpl0 := hp.2
  by_cases hk : (k : Int) ≤ x.n
  · have hf : x.flash k ps = ⟨ps, x.n - k + 1, false, max 0 (min x.keep 64)⟩ := by unfold Use.flash; rw [if_pos hk]
    have hfv : Fl.valid ⟨ps, x.n - k + 1, false, max 0 (min x.keep 64)⟩ = true := valid_mk h3 (by omega) (by omega) (by omega)
    have hh : Fl.has ⟨ps, x.n - k + 1, false, max 0 (min x.keep 64)⟩ i = true := has_iff.2 ⟨hfv, hi, by simp only; omega⟩
    have hpl := (page_len hfv hi (by simp only; omega)).2
    rw [hf]
    by_cases he : x.n - k + 1 = 1
    · refine ⟨ps.set i.toNat (d.take (max 0 (min x.keep 64)).toNat ++ (Fl.page ⟨ps, x.n - k + 1, false, max 0 (min x.keep 64)⟩ i).drop (max 0 (min x.keep 64)).toNat), ?_, pagesOk_set h3 ?_, by simp [h4]⟩
      · have hf2 : ∀ q, x.flash (k + 1) q = ⟨q, 0, true, 0⟩ := by intro q; unfold Use.flash; rw [if_neg (by omega)]
        rw [hf2]
        unfold Fl.write
        rw [if_pos ⟨hh, hdl⟩, if_neg (by simp), if_pos he, if_neg (by omega)]
      · simp only [List.length_append, List.length_take, List.length_drop, hpl]; omega
    · refine ⟨ps.set i.toNat d, ?_, pagesOk_set h3 hdl, by simp [h4]⟩
      have hf2 : ∀ q, x.flash (k + 1) q = ⟨q, x.n - k, false, max 0 (min x.keep 64)⟩ := by intro q; unfold Use.flash; rw [if_pos (by omega)]; congr 1; omega
      rw [hf2]
      unfold Fl.write
      rw [if_pos ⟨hh, hdl⟩, if_neg (by simp), if_neg he]
      simp only
      have : (if (0 : Int) < x.n - k + 1 - 1 then x.n - k + 1 - 1 else 0) = x.n - k := by rw [if_pos (by omega)]; omega
      rw [this, if_pos (by omega)]
  · have hf : ∀ j q, k ≤ j → x.flash j q = ⟨q, 0, true, 0⟩ := by intro j q hj; unfold Use.flash; rw [if_neg (by omega)]
    refine ⟨ps, ?_, h3, h4⟩
    have hfv : Fl.valid ⟨ps, 0, true, 0⟩ = true := valid_mk h3 (by omega) (by omega) (by omega)
    have hh : Fl.has ⟨ps, 0, true, 0⟩ i = true := has_iff.2 ⟨hfv, hi, by simp only; omega⟩
    rw [hf k _ (Nat.le_refl _), hf (k + 1) _ (Nat.le_succ _)]
    unfold Fl.write
    rw [if_pos ⟨hh, hdl⟩, if_pos rfl, if_neg (by omega)]

set_option maxRecDepth 8000 in
set_option maxHeartbeats 4000000 in
theorem counts_ok (x : Use) (hb : x.f.pages.length ≤ 9223372036854775807) : PureC Try.prog 8 [x.enc] (· = .b true) := by
  refine pure_of mix ok8 (by simp) ?_
  unfold c8
  simp [go_sem, Use.enc, encP]
  refine ACall_is ((heavy_ok x).is rfl) ?_
  cases hh : x.heavy
  case true =>
    simp [go_sem]
    refine ACall_is (awake_ok.is rfl) ?_
    simp [go_sem, r8]
  have hl := heavy_len hh
  simp [go_sem]
  refine ACall_is ((valid_ok x.f (by omega)).is rfl) ?_
  cases hv : x.f.valid
  case false =>
    simp [go_sem]
    refine ACall_is (awake_ok.is rfl) ?_
    simp [go_sem, r8]
  have hk := valid_keep hv
  have hp := valid_pages hv
  cases hd : x.f.dead
  case true =>
    simp [go_sem]
    refine ACall_is (awake_ok.is rfl) ?_
    simp [go_sem, r8]
  by_cases hn : 1 ≤ x.n
  case neg =>
    simp [go_sem, show x.n < 1 by omega]
    refine ACall_is (awake_ok.is rfl) ?_
    simp [go_sem, r8]
  by_cases hn2 : x.n ≤ 30
  case neg =>
    simp [go_sem, show ¬ x.n < 1 by omega, show 30 < x.n by omega]
    refine ACall_is (awake_ok.is rfl) ?_
    simp [go_sem, r8]
  simp [go_sem, show ¬ x.n < 1 by omega, show ¬ 30 < x.n by omega]
  have hf := (fail_ok x.f x.n x.keep (by omega)).is rfl
  have hfe : x.f.fail x.n x.keep = ⟨x.f.pages, x.n, false, max 0 (min x.keep 64)⟩ := by
    simp [Fl.fail, hd, hv, show ¬ x.n < 1 by omega]; omega
  rw [hfe, Fl.enc, encP, hd] at hf
  refine ACall_is hf ?_
  simp [go_sem, Fl.enc, encP]
  refine AS_loop (α := Nat × List (List UInt8)) (fun a => 1 ≤ a.1 ∧ (a.1 : Int) ≤ x.n + 3 ∧ pagesOk a.2 = true ∧ a.2.length = x.f.pages.length)
    (fun a => ⟨[(1, .p 0 1 0 0), (3, .p 1 1 0 0), (4, .i .i64 a.1)],
      [.arr 1 8 [[.l 1 (x.f.pages.map fun p => [.s p]), .i .i64 x.f.fuse, .b false, .i .i64 x.f.keep, .i .i64 x.i, .s x.data, .i .i64 x.n, .i .i64 x.keep]],
       .arr 1 4 [[.l 1 ((x.flash a.1 a.2).pages.map fun p => [.s p]), .i .i64 (x.flash a.1 a.2).fuse, .b (x.flash a.1 a.2).dead, .i .i64 (x.flash a.1 a.2).keep]]]⟩)
    (fun a => 40 - a.1) (1, x.f.pages) ⟨Nat.le_refl _, by simp only; omega, hp.1, rfl⟩ ?_ ?_
  · simp [go_sem, Use.flash, hn]
  · rintro ⟨k, ps⟩ ⟨h1, h2, h3, h4⟩
    simp only at h1 h2 h3 h4 ⊢
    simp (disch := omega) [go_sem, wrap64_small]
    refine ⟨fun hk3 => ?_, fun hk3 => ?_⟩
    · have hub : IntKind.u8.wrap (k : Int) = ((UInt8.ofNat k).toNat : Int) := by
        rw [UInt8.toNat_ofNat']; simp [IntKind.wrap, IntKind.signed, IntKind.bits]
      rw [hub]
      refine DCall_is (filled_ok (UInt8.ofNat k)) ?_
      have htm : (k : Int).tmod 2 = ((k % 2 : Nat) : Int) := by rw [Int.ofNat_tmod]; rfl
      obtain ⟨ps', hw1, hw2, hw3⟩ := flash_write hd hv hn hn2 (k := k) (ps := ps) (i := (k : Int).tmod 2) (d := List.replicate 64 (UInt8.ofNat k)) h1 h3 h4 (by rw [htm]; omega) (by rw [htm]; omega) (by simp)
      simp [go_sem, -List.reduceReplicate]
      have hwc := (write_ok (x.flash k ps) ((k : Int).tmod 2) (List.replicate 64 (UInt8.ofNat k)) (by rw [flash_pages]; omega)).is rfl
      rw [hw1] at hwc
      refine DCall_is hwc ?_
      generalize List.replicate 64 (UInt8.ofNat k) = dd
      have hch : ∀ e : Int, (e = if (k : Int) < x.n then 0 else 17) → True := fun _ _ => trivial
      by_cases hkn : (k : Int) < x.n
      · simp [go_sem, Fl.enc, encP, hkn, show ¬ x.n ≤ (k : Int) by omega]
        simp (disch := omega) [go_sem, wrap64_small]
        refine ⟨k + 1, ps', ⟨by omega, by omega, hw2, hw3⟩, by omega, ?_⟩
        simp [go_sem]
      · simp [go_sem, Fl.enc, encP, hkn, show x.n ≤ (k : Int) by omega]
        simp (disch := omega) [go_sem, wrap64_small]
        refine ⟨k + 1, ps', ⟨by omega, by omega, hw2, hw3⟩, by omega, ?_⟩
        simp [go_sem]
    · refine ACall_is (awake_ok.is rfl) ?_
      simp [go_sem, r8]
set_option maxRecDepth 100000 in
theorem flashCounts_lifted (os : Os) (started : os.Started) (H : Type) (enc : TypeId × Value → H) :
    ReturnsInHanded {} Try.checked os 8 .any (Rows.flashCountsSpec.pre6 enc Try.prog Try.f8 Rows.flashCountsRow.domain false) (Rows.flashCountsSpec.post enc Try.prog Try.f8 false true false false) := by
  refine returnsInHanded_of_change (C := Try.checked) own started (by kernel_rfl) Try.func8
    (ChangeSpec.witness6 (enc := enc) (C := Try.checked) false ⟨#[], #[.agg #[.slice none 0 0, .int .i64 0, .bool false, .int .i64 0, .int .i64 0, .string ⟨#[]⟩, .int .i64 0, .int .i64 0]], []⟩ 8 (by kernel_rfl) (by kernel_rfl) (by kernel_rfl) (by kernel_rfl)) ?_
  intro W base args ds gs before hval0 hW0 _ _
  have hval : ∀ (j : Nat) t v, Try.f8.params[j]? = some t → args[j]? = some v → Value.okWide Try.prog W .any base t v := hval0
  have hW : DataW.Whole enc Try.prog Try.f8.params.toList Rows.flashCountsSpec.vars false W args.toList ds gs before := hW0
  refine law_contract (tb := 4) (pars := [(true, useSch)]) laid rfl (by kernel_rfl) Try.underlying4 (by kernel_rfl) (by kernel_rfl) (fun ds h => ?_) (fun us hus => ?_) W base args ds gs before hval hW
  · match ds, h with
    | [d], _ => rfl
  · obtain ⟨x, rfl, hb⟩ := use_of hus
    exact counts_ok x hb

theorem flashCounts : Rows.FlashCountsSaid :=
  OpenClaim.holds_of_wide 8 Try.f8 rfl rfl rfl rfl rfl rfl rfl ⟨rfl, rfl, rfl, rfl, rfl⟩ rfl rfl rfl rfl rfl (by kernel_rfl) Try.func8 (by kernel_rfl)
    (of_decide_eq_true (by kernel_rfl)) (by unfold Func.isWrapper; first | (rw [if_pos (by decide +kernel)]; kernel_rfl) | (rw [if_neg (by decide +kernel)]; exact ⟨rfl, rfl⟩))
    (fun os started H enc _ => flashCounts_lifted os started H enc)
end Go.Proofs.Ytedcbjgnidjidaa
