/- What writing to the flash memory does to values. -/
import Derived.Test.YtedcbjgnidjidaaFlR
set_option linter.unusedVariables false
set_option linter.unusedSimpArgs false
namespace Go.Proofs.Ytedcbjgnidjidaa
open Go.Abs

def Fl.own (f : Fl) : V := .a [.own 2 1 0 f.pages.length, .i .i64 f.fuse, .b f.dead, .i .i64 f.keep]
def Fl.ownH (f : Fl) : List O := [.dead, .dead, .arr 1 1 (f.pages.map fun p => [.s p])]

theorem copied_ok (f : Fl) (hb : f.pages.length ≤ 8796093022208) : NewC Try.prog 50 [f.enc] (fun r h => r = f.own ∧ h = f.ownH) := by
  refine new_of mix ok50 (by simp) ?_
  unfold c50
  simp [go_sem, Fl.enc, encP]
  refine ⟨⟨by omega, by omega⟩, ?_⟩
  simp [go_sem, r50, Fl.own, Fl.ownH]

theorem again_ok (f : Fl) (hb : f.pages.length ≤ 8796093022208) : NewC Try.prog 51 [f.enc] (fun r h => r = f.own ∧ h = f.ownH) := by
  refine new_of mix ok51 (by simp) ?_
  unfold c51
  simp [go_sem, Fl.enc, encP]
  refine ⟨⟨by omega, by omega⟩, ?_⟩
  simp [go_sem, r51, Fl.own, Fl.ownH]

def Fl.page (f : Fl) (i : Int) : List UInt8 := f.pages[i.toNat]?.getD []
def Fl.write (f : Fl) (i : Int) (d : List UInt8) : Fl × Int :=
  if f.has i = true ∧ d.length = 64 then
    if f.dead = true then (f, 17)
    else if f.fuse = 1 then (⟨f.pages.set i.toNat (d.take f.keep.toNat ++ (f.page i).drop f.keep.toNat), 0, true, 0⟩, 17)
    else (⟨f.pages.set i.toNat d, if 0 < f.fuse - 1 then f.fuse - 1 else 0, f.dead, f.keep⟩, 0)
  else (f, 1)

theorem page_len {f : Fl} (h : f.valid = true) {i : Int} (h0 : 0 ≤ i) (hi : i < f.pages.length) : f.pages[i.toNat]? = some (f.page i) ∧ (f.page i).length = 64 := by
  have hlt : i.toNat < f.pages.length := by omega
  have h1 : f.pages[i.toNat]? = some f.pages[i.toNat] := List.getElem?_eq_getElem hlt
  have h2 : f.page i = f.pages[i.toNat] := by simp [Fl.page, h1]
  refine ⟨by rw [h1, h2], ?_⟩
  rw [h2]
  simp only [Fl.valid, Bool.and_eq_true] at h
  have := List.all_eq_true.1 h.1 f.pages[i.toNat] (List.getElem_mem hlt)
  simpa using this

theorem valid_keep {f : Fl} (h : f.valid = true) : 0 ≤ f.keep ∧ f.keep ≤ 64 ∧ 0 ≤ f.fuse ∧ f.fuse ≤ 1048576 := by
  simp [Fl.valid] at h
  omega

theorem sh_pages (n : Nat) (ps : List (List UInt8)) : (ps.map fun p => ([.s p] : List V)).map (fun el => el.map (V.sh1 n)) = ps.map fun p => [.s p] := by
  rw [List.map_map]; rfl

theorem ownH_sh (f : Fl) (n : Nat) : f.ownH.map (O.sh n) = f.ownH := by
  simp only [Fl.ownH, List.map_cons, List.map_nil, O.sh, sh_pages]
theorem own_sh (f : Fl) (n : Nat) : f.own.sh n = .a [.own (n + 2) 1 0 f.pages.length, .i .i64 f.fuse, .b f.dead, .i .i64 f.keep] := _root_.id rfl

theorem mixed_len {d p : List UInt8} {k : Nat} (hd : d.length = 64) (hp : p.length = 64) (hk : k ≤ 64) : List.take 64 (List.take 64 (List.take k d) ++ List.drop k p) = List.take k d ++ List.drop k p := by
  have h1 : List.take 64 (List.take k d) = List.take k d := List.take_of_length_le (by simp; omega)
  rw [h1, List.take_of_length_le (by simp; omega)]

theorem set_pages (ps : List (List UInt8)) (i : Nat) (x : List UInt8) : (ps.map fun p => ([.s p] : List V)).set i [.s x] = (ps.set i x).map fun p => [.s p] := List.map_set.symm
theorem take_pages (ps : List (List UInt8)) (i : Nat) (x : List UInt8) : List.take ps.length ((ps.set i x).map fun p => ([.s p] : List V)) = (ps.set i x).map fun p => [.s p] := List.take_of_length_le (by simp)
theorem isD_pages (ps : List (List UInt8)) : (∀ x ∈ ps.map fun p => ([.s p] : List V), ∀ y ∈ x, y.isD = true) = True := by simp [V.isD]

theorem write_ok (f : Fl) (i : Int) (d : List UInt8) (hb : f.pages.length ≤ 8796093022208) : PureC Try.prog 26 [f.enc, .i .i64 i, .s d] (· = .t [(f.write i d).1.enc, .i .i64 (f.write i d).2]) := by
  refine pure_of mix ok26 (by simp) ?_
  unfold c26
  simp [go_sem, Fl.enc, encP]
  refine ACall_new (copied_ok f hb) rfl ?_
  rw [own_sh, ownH_sh]
  simp [go_sem, Fl.ownH]
  refine ACall_is ((has_ok f i (by omega)).is rfl) ?_
  cases hh : f.has i
  · simp [go_sem, r26, Fl.write, hh, Fl.enc, encP, List.take_of_length_le]
  · obtain ⟨h1, h2, h3⟩ := has_iff.1 hh
    have hlt : i.toNat < f.pages.length := by omega
    have hpg := page_len h1 h2 h3
    have hk := valid_keep h1
    have hk1 := hk.1
    have hpl : (f.pages[i.toNat]).length = 64 := by rw [← hpg.2]; congr 1; exact Option.some.inj ((List.getElem?_eq_getElem hlt).symm.trans hpg.1)
    by_cases hd : d.length = 64
    · cases hdd : f.dead
      · by_cases hf : f.fuse = 1
        · simp [go_sem, hd, hf, hlt, h2, hk1, hpl, show f.keep.toNat ≤ 64 by omega]
          simp only [← List.map_take, ← List.map_drop, ← List.map_append, bytesOf_map, mixed_len hd hpl (show f.keep.toNat ≤ 64 by omega)]
          simp [go_sem, hd, hf, hlt, h2, hk1, hpl, r26, Fl.write, hh, hdd]
          have hpi : f.page i = f.pages[i.toNat] := by simp [Fl.page, hlt]
          rw [hpi]
          simp only [set_pages, take_pages, isD_pages, if_true, Option.bind_some, Function.comp_def, Option.map_some]
          rfl
        · simp [go_sem, hd, hf, hlt, h2, hpl]
          simp only [← List.map_take, ← List.map_drop, ← List.map_append, bytesOf_map]
          simp [go_sem, hd, hf, hlt, h2, hk1, hpl, r26, Fl.write, hh, hdd]
          simp only [set_pages, take_pages, isD_pages, if_true, Option.bind_some, Function.comp_def, Option.map_some, List.take_of_length_le (show d.length ≤ 64 by omega)]
          simp (disch := omega) [wrap64_small, tupV]
      · simp [go_sem, r26, Fl.write, hh, Fl.enc, encP, hd, hdd, List.take_of_length_le]
    · have hd' : ¬ ((d.length : Int) = 64) := by omega
      simp [go_sem, r26, Fl.write, hh, Fl.enc, encP, hd, hd', List.take_of_length_le]
set_option maxRecDepth 4000 in
set_option maxHeartbeats 1000000 in
theorem rwrite_ok (f : Fl) (i : Int) (d : List UInt8) (hb : f.pages.length ≤ 8796093022208) : PureC Try.prog 27 [f.enc, .i .i64 i, .s d] (· = .t [(f.write i d).1.enc, .i .i64 (f.write i d).2]) := by
  refine pure_of mix ok27 (by simp) ?_
  unfold c27
  simp [go_sem, Fl.enc, encP]
  refine ACall_new (again_ok f hb) rfl ?_
  rw [own_sh, ownH_sh]
  simp [go_sem, Fl.ownH]
  refine ACall_is ((rvalid_ok f (by omega)).is rfl) ?_
  cases hh : f.has i
  · have hh' : ¬ (f.valid = true ∧ 0 ≤ i ∧ i < f.pages.length) := fun h => by rw [has_iff.2 h] at hh; cases hh
    cases hv : f.valid
    · simp [go_sem, r27, Fl.write, hh, Fl.enc, encP, List.take_of_length_le]
    · by_cases h0 : i < 0
      · simp [go_sem, r27, Fl.write, hh, Fl.enc, encP, List.take_of_length_le, h0]
      · have h1 : (f.pages.length : Int) ≤ i := by
          refine Decidable.byContradiction fun h5 => hh' ⟨hv, by omega, by omega⟩
        simp [go_sem, r27, Fl.write, hh, Fl.enc, encP, List.take_of_length_le, h0, h1]
  · obtain ⟨h1, h2, h3⟩ := has_iff.1 hh
    have h4 : ¬ i < 0 := by omega
    have h5 : ¬ (f.pages.length : Int) ≤ i := by omega
    have hlt : i.toNat < f.pages.length := by omega
    have hpg := page_len h1 h2 h3
    have hk := valid_keep h1
    have hk1 := hk.1
    have hpl : (f.pages[i.toNat]).length = 64 := by rw [← hpg.2]; congr 1; exact Option.some.inj ((List.getElem?_eq_getElem hlt).symm.trans hpg.1)
    by_cases hd : d.length = 64
    · cases hdd : f.dead
      · by_cases hf : f.fuse = 1
        · have h6 : f.keep.toNat ≤ 64 := by omega
          have hpi : f.page i = f.pages[i.toNat] := by simp [Fl.page, hlt]
          simp [go_sem, hd, hf, hlt, h2, hk1, hpl, h1, h4, h5, h6, hdd]

          simp [go_sem, r27, Fl.write, hh, hd, hf, hdd, hpi]
          simp only [set_pages, take_pages, isD_pages, if_true, Option.bind_some, Function.comp_def, Option.map_some, List.take_of_length_le (show (f.pages[i.toNat]).length ≤ 64 by omega)]
          rfl
        · simp [go_sem, hd, hf, hlt, h2, hpl, h1, h4, h5, hdd]
          simp [go_sem, r27, Fl.write, hh, hd, hf, hdd]
          simp only [set_pages, take_pages, isD_pages, if_true, Option.bind_some, Function.comp_def, Option.map_some]
          simp (disch := omega) [wrap64_small, tupV]
      · simp [go_sem, r27, Fl.write, hh, Fl.enc, encP, hd, hdd, List.take_of_length_le, h1, h4, h5]
    · have hd' : ¬ ((d.length : Int) = 64) := by omega
      simp [go_sem, h1, h4, h5, hd', hd]
      simp [go_sem, r27, Fl.write, hh, hd, List.take_of_length_le]
end Go.Proofs.Ytedcbjgnidjidaa
