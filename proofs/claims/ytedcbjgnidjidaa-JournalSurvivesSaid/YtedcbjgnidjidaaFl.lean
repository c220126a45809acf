/- What the functions of the flash memory (package flash, its reference) do to values. -/
import Derived.Test.YtedcbjgnidjidaaIrFl
set_option linter.unusedVariables false
set_option linter.unusedSimpArgs false
namespace Go.Proofs.Ytedcbjgnidjidaa
open Go.Abs

structure Fl where
  pages : List (List UInt8)
  fuse : Int
  dead : Bool
  keep : Int

def encP (ps : List (List UInt8)) : V := .l 1 (ps.map fun p => [.s p])
def Fl.enc (f : Fl) : V := .a [encP f.pages, .i .i64 f.fuse, .b f.dead, .i .i64 f.keep]

def pagesOk (ps : List (List UInt8)) : Bool := ps.all fun p => p.length == 64
def Fl.valid (f : Fl) : Bool := pagesOk f.pages && (decide ((2 : Int) ≤ f.pages.length) && decide ((f.pages.length : Int) ≤ 256) && decide (0 ≤ f.fuse) && decide (f.fuse ≤ 1048576) && decide (0 ≤ f.keep) && decide (f.keep ≤ 64))

theorem pagesOk_take {ps : List (List UInt8)} {k : Nat} {p : List UInt8} (hp : ps[k]? = some p) : pagesOk (ps.take (k + 1)) = (pagesOk (ps.take k) && (p.length == 64)) := by
  simp [pagesOk, List.take_add_one, hp]

theorem pagesOk_false {ps : List (List UInt8)} {k : Nat} {p : List UInt8} (hp : ps[k]? = some p) (hl : p.length ≠ 64) : pagesOk ps = false := by
  rw [Bool.eq_false_iff]
  intro h
  have := List.all_eq_true.1 h p (List.mem_of_getElem? hp)
  simp at this; omega

theorem mix : Try.prog.follows .mixedOrders = true := by rfl

theorem valid_ok (f : Fl) (hb : f.pages.length ≤ 9223372036854775807) : PureC Try.prog 20 [f.enc] (· = .b f.valid) := by
  refine pure_of mix ok20 (by simp) ?_
  unfold c20
  simp [go_sem, Fl.enc, encP]
  refine AS_loop (α := Nat) (fun k => k ≤ f.pages.length ∧ pagesOk (f.pages.take k) = true)
    (fun k => ⟨[(1, .p 0 1 0 0), (6, encP f.pages), (7, .i .i64 f.pages.length), (8, .i .i64 k)], [.arr 1 4 [[encP f.pages, .i .i64 f.fuse, .b f.dead, .i .i64 f.keep]]]⟩)
    (fun k => f.pages.length - k) 0 ⟨Nat.zero_le _, rfl⟩ ?_ ?_
  · simp [go_sem, encP]
  · rintro k ⟨hk, hok⟩
    cases hp : f.pages[k]? with
    | none =>
      have : ¬ k < f.pages.length := by simpa using hp
      obtain rfl : k = f.pages.length := by omega
      rw [List.take_length] at hok
      simp +contextual -implicitDefEqProofs [go_sem, encP, r20]
      simp [Fl.valid, hok]
    | some p =>
      obtain ⟨hlt, hp'⟩ := List.getElem?_eq_some_iff.1 hp
      simp [go_sem, encP, hlt, hp']
      refine ⟨fun h64 => ?_, fun h64 => ?_⟩
      · simp [go_sem, r20, Fl.valid, pagesOk_false hp (by omega)]
      · simp (disch := omega) [go_sem, wrap64_small]
        refine ⟨k + 1, ⟨by omega, ?_⟩, by omega, ?_⟩
        · simp [pagesOk_take hp, hok]; omega
        · simp [go_sem, encP]

theorem rvalid_ok (f : Fl) (hb : f.pages.length ≤ 9223372036854775807) : PureC Try.prog 25 [f.enc] (· = .b f.valid) := by
  refine pure_of mix ok25 (by simp) ?_
  unfold c25
  simp [go_sem, Fl.enc, encP]
  refine AS_loop (α := Nat) (fun k => k ≤ f.pages.length ∧ pagesOk (f.pages.take k) = true)
    (fun k => ⟨[(1, .p 0 1 0 0), (6, encP f.pages), (7, .i .i64 f.pages.length), (8, .i .i64 k)], [.arr 1 4 [[encP f.pages, .i .i64 f.fuse, .b f.dead, .i .i64 f.keep]]]⟩)
    (fun k => f.pages.length - k) 0 ⟨Nat.zero_le _, rfl⟩ ?_ ?_
  · simp [go_sem, encP]
  · rintro k ⟨hk, hok⟩
    cases hp : f.pages[k]? with
    | none =>
      have : ¬ k < f.pages.length := by simpa using hp
      obtain rfl : k = f.pages.length := by omega
      rw [List.take_length] at hok
      simp +contextual -implicitDefEqProofs [go_sem, encP, r25]
      simp [Fl.valid, hok]
    | some p =>
      obtain ⟨hlt, hp'⟩ := List.getElem?_eq_some_iff.1 hp
      simp [go_sem, encP, hlt, hp']
      refine ⟨fun h64 => ?_, fun h64 => ?_⟩
      · simp [go_sem, r25, Fl.valid, pagesOk_false hp (by omega)]
      · simp (disch := omega) [go_sem, wrap64_small]
        refine ⟨k + 1, ⟨by omega, ?_⟩, by omega, ?_⟩
        · simp [pagesOk_take hp, hok]; omega
        · simp [go_sem, encP]

theorem same_ok (f : Fl) (hb : f.pages.length ≤ 9223372036854775807) : PureC Try.prog 19 [f.enc, f.enc] (· = .b true) := by
  refine pure_of mix ok19 (by simp) ?_
  unfold c19
  simp [go_sem, Fl.enc, encP]
  refine AS_loop (α := Nat) (fun k => k ≤ f.pages.length)
    (fun k => ⟨[(2, .p 0 1 0 0), (3, .p 1 1 0 0), (36, .i .i64 f.pages.length), (37, .i .i64 k)], [.arr 1 4 [[encP f.pages, .i .i64 f.fuse, .b f.dead, .i .i64 f.keep]], .arr 1 4 [[encP f.pages, .i .i64 f.fuse, .b f.dead, .i .i64 f.keep]]]⟩)
    (fun k => f.pages.length - k) 0 (Nat.zero_le _) ?_ ?_
  · simp [go_sem, encP]
  · intro k hk
    cases hp : f.pages[k]? with
    | none =>
      have : ¬ k < f.pages.length := by simpa using hp
      obtain rfl : k = f.pages.length := by omega
      simp [go_sem, encP, r19]
    | some p =>
      obtain ⟨hlt, hp'⟩ := List.getElem?_eq_some_iff.1 hp
      simp [go_sem, encP, hlt, hp']
      simp (disch := omega) [go_sem, wrap64_small]
      refine ⟨k + 1, by omega, by omega, ?_⟩
      simp [go_sem, encP]
end Go.Proofs.Ytedcbjgnidjidaa
