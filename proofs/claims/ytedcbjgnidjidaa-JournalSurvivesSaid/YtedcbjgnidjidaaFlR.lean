/- What reading of the flash memory, and the guard of the statements, do to values. -/
import Derived.Test.YtedcbjgnidjidaaFlNew
set_option linter.unusedVariables false
set_option linter.unusedSimpArgs false
namespace Go.Proofs.Ytedcbjgnidjidaa
open Go.Abs

structure Use where
  f : Fl
  i : Int
  data : List UInt8
  n : Int
  keep : Int

def Use.enc (x : Use) : V := .a [encP x.f.pages, .i .i64 x.f.fuse, .b x.f.dead, .i .i64 x.f.keep, .i .i64 x.i, .s x.data, .i .i64 x.n, .i .i64 x.keep]

def shortPages (ps : List (List UInt8)) : Bool := ps.all fun p => decide (p.length ≤ 1000)
def Use.heavy (x : Use) : Bool := decide ((259 : Int) < x.f.pages.length) || decide ((1000 : Int) < x.data.length) || !shortPages x.f.pages

theorem shortPages_take {ps : List (List UInt8)} {k : Nat} {p : List UInt8} (hp : ps[k]? = some p) : shortPages (ps.take (k + 1)) = (shortPages (ps.take k) && decide (p.length ≤ 1000)) := by
  simp [shortPages, List.take_add_one, hp]

theorem shortPages_false {ps : List (List UInt8)} {k : Nat} {p : List UInt8} (hp : ps[k]? = some p) (hl : 1000 < p.length) : shortPages ps = false := by
  rw [Bool.eq_false_iff]
  intro h
  have := List.all_eq_true.1 h p (List.mem_of_getElem? hp)
  simp at this; omega

theorem heavy_ok (x : Use) : PureC Try.prog 22 [x.enc] (· = .b x.heavy) := by
  refine pure_of mix ok22 (by simp) ?_
  unfold c22
  simp +contextual -implicitDefEqProofs [go_sem, Use.enc, encP]
  refine ⟨fun h => ?_, fun h1 h2 => ?_⟩
  · simp [go_sem, r22, Use.heavy]
    rcases h with h | h <;> simp [h]
  refine AS_loop (α := Nat) (fun k => k ≤ x.f.pages.length ∧ shortPages (x.f.pages.take k) = true)
    (fun k => ⟨[(1, .p 0 1 0 0), (18, encP x.f.pages), (19, .i .i64 x.f.pages.length), (20, .i .i64 k)], [.dead]⟩)
    (fun k => x.f.pages.length - k) 0 ⟨Nat.zero_le _, rfl⟩ ?_ ?_
  · simp [go_sem, encP]
  · rintro k ⟨hk, hok⟩
    cases hp : x.f.pages[k]? with
    | none =>
      have : ¬ k < x.f.pages.length := by simpa using hp
      obtain rfl : k = x.f.pages.length := by omega
      rw [List.take_length] at hok
      simp [go_sem, encP, r22, Use.heavy, hok]
      omega
    | some p =>
      obtain ⟨hlt, hp'⟩ := List.getElem?_eq_some_iff.1 hp
      simp [go_sem, encP, hlt, hp']
      refine ⟨fun h64 => ?_, fun h64 => ?_⟩
      · simp [go_sem, r22, Use.heavy, shortPages_false hp (by omega)]
      · simp (disch := omega) [go_sem, wrap64_small]
        refine ⟨k + 1, ⟨by omega, ?_⟩, by omega, ?_⟩
        · simp [shortPages_take hp, hok]; omega
        · simp [go_sem, encP]

def Fl.has (f : Fl) (i : Int) : Bool := f.valid && decide (0 ≤ i) && decide (i < f.pages.length)

theorem has_ok (f : Fl) (i : Int) (hb : f.pages.length ≤ 9223372036854775807) : PureC Try.prog 49 [f.enc, .i .i64 i] (· = .b (f.has i)) := by
  refine pure_of mix ok49 (by simp) ?_
  unfold c49
  simp [go_sem, Fl.enc, encP]
  refine ACall_is ((valid_ok f hb).is rfl) ?_
  simp +contextual -implicitDefEqProofs [go_sem, r49, Fl.has]

def Fl.read (f : Fl) (i : Int) : V :=
  if f.has i = true then (if f.dead = true then .t [.s [], .i .i64 17] else .t [.s (f.pages[i.toNat]?.getD []), .i .i64 0]) else .t [.s [], .i .i64 1]

theorem has_iff {f : Fl} {i : Int} : f.has i = true ↔ f.valid = true ∧ 0 ≤ i ∧ i < f.pages.length := by
  simp [Fl.has, and_assoc]

theorem read_ok (f : Fl) (i : Int) (hb : f.pages.length ≤ 9223372036854775807) : PureC Try.prog 23 [f.enc, .i .i64 i] (· = f.read i) := by
  refine pure_of mix ok23 (by simp) ?_
  unfold c23
  simp [go_sem, Fl.enc, encP]
  refine ACall_is ((has_ok f i hb).is rfl) ?_
  cases hh : f.has i
  · simp [go_sem, r23, Fl.read, hh]
  · obtain ⟨h1, h2, h3⟩ := has_iff.1 hh
    have hlt : i.toNat < f.pages.length := by omega
    cases hd : f.dead <;> simp [go_sem, r23, Fl.read, hh, hd, h2, hlt]

theorem rread_ok (f : Fl) (i : Int) (hb : f.pages.length ≤ 9223372036854775807) : PureC Try.prog 24 [f.enc, .i .i64 i] (· = f.read i) := by
  refine pure_of mix ok24 (by simp) ?_
  unfold c24
  simp [go_sem, Fl.enc, encP]
  refine ACall_is ((rvalid_ok f hb).is rfl) ?_
  cases hh : f.has i
  · have hh' : ¬ (f.valid = true ∧ 0 ≤ i ∧ i < f.pages.length) := fun h => by rw [has_iff.2 h] at hh; cases hh
    cases hv : f.valid
    · simp +contextual -implicitDefEqProofs [go_sem, r24, Fl.read, hh]
    · simp +contextual -implicitDefEqProofs [go_sem, r24, Fl.read, hh]
      intro h4
      exact Decidable.byContradiction fun h5 => hh' ⟨hv, h4, by omega⟩
  · obtain ⟨h1, h2, h3⟩ := has_iff.1 hh
    have hlt : i.toNat < f.pages.length := by omega
    have h4 : ¬ i < 0 := by omega
    have h5 : ¬ (f.pages.length : Int) ≤ i := by omega
    cases hd : f.dead <;> simp +contextual -implicitDefEqProofs [go_sem, r24, Fl.read, hh, hd, h1, h2, h4, h5, hlt]

def useSch : List Sch := [.sl [.s], .i .i64, .b, .i .i64, .i .i64, .s, .i .i64, .i .i64]

theorem pages_of : ∀ els : List (List V), (∀ e ∈ els, okL [.s] e) → ∃ ps : List (List UInt8), els = ps.map fun p => [.s p]
  | [], _ => ⟨[], rfl⟩
  | e :: els, h => by
    obtain ⟨ps, rfl⟩ := pages_of els (fun e he => h e (by simp [he]))
    have := h e (by simp)
    simp only [okL, Sch.ok] at this
    obtain ⟨v, r, rfl, ⟨p, rfl, _⟩, rfl⟩ := this
    exact ⟨p :: ps, rfl⟩

theorem use_of {us : List V} (h : okPars [(true, useSch)] us) : ∃ x : Use, us = [x.enc] ∧ x.f.pages.length ≤ 9223372036854775807 := by
  simp only [okPars, okPar] at h
  obtain ⟨v, r, rfl, ⟨cs, rfl, hc⟩, rfl⟩ := h
  simp only [useSch, okL, Sch.ok] at hc
  obtain ⟨v1, r1, rfl, ⟨els, rfl, hl, he⟩, v2, r2, rfl, ⟨fuse, rfl, _⟩, v3, r3, rfl, ⟨dead, rfl⟩, v4, r4, rfl, ⟨keep, rfl, _⟩, v5, r5, rfl, ⟨i, rfl, _⟩, v6, r6, rfl, ⟨data, rfl, _⟩, v7, r7, rfl, ⟨n, rfl, _⟩, v8, r8, rfl, ⟨k, rfl, _⟩, rfl⟩ := hc
  obtain ⟨ps, rfl⟩ := pages_of els he
  exact ⟨⟨⟨ps, fuse, dead, keep⟩, i, data, n, k⟩, rfl, by simpa using hl⟩

end Go.Proofs.Ytedcbjgnidjidaa
