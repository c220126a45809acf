/- What New of the flash memory, and its reference, do to values. -/
import Derived.Test.YtedcbjgnidjidaaFl
set_option linter.unusedVariables false
set_option linter.unusedSimpArgs false
namespace Go.Proofs.Ytedcbjgnidjidaa
open Go.Abs
def zs : List UInt8 := List.replicate 64 0
theorem zeros_ok : PureC Try.prog 48 [] (· = .s zs) := by
  refine pure_of mix ok48 (by simp) ?_
  unfold c48
  simp [go_sem, r48, zs, -List.reduceReplicate]

def nilFl : V := .a [.nil, .i .i64 0, .b false, .i .i64 0]
def newFl (n : Nat) : Fl := ⟨List.replicate n zs, 0, false, 0⟩
def newR (n : Int) : V := if 2 ≤ n ∧ n ≤ 256 then .t [(newFl n.toNat).enc, .i .i64 0] else .t [nilFl, .i .i64 1]

/-- The state of New's loop behind k rounds. -/
def newS (n : Int) (env : List (Nat × V)) (k : Nat) : St :=
  if k = 0 then ⟨(0, .i .i64 n) :: (2, .p 0 1 0 0) :: (4, .p 1 1 0 0) :: env, [.arr 1 4 [[.nil, .i .i64 0, .b false, .i .i64 0]], .arr 1 4 [[.nil, .i .i64 0, .b false, .i .i64 0]]]⟩
  else ⟨(0, .i .i64 n) :: (2, .p 0 1 0 0) :: (4, .p 1 1 0 0) :: env, [.arr 1 4 [[.nil, .i .i64 0, .b false, .i .i64 0]], .arr 1 4 [[.own 2 k 0 k, .i .i64 0, .b false, .i .i64 0]], .arr k 1 (List.replicate k [.s zs])]⟩

theorem new_ok (n : Int) : PureC Try.prog 17 [.i .i64 n] (· = newR n) := by
  refine pure_of mix ok17 (by simp) ?_
  unfold c17
  simp +contextual -implicitDefEqProofs [go_sem]
  refine ⟨fun h => ?_, fun h1 h2 => ?_⟩
  · simp [go_sem, r17, newR, nilFl]
    omega
  · refine AS_loop (α := Nat) (fun k => (k : Int) ≤ n) (newS n []) (fun k => n.toNat - k) 0 (by simp; omega) ?_ ?_
    · simp [go_sem, newS]
    · intro k hk
      by_cases h0 : k = 0
      · subst h0
        simp [go_sem, newS, -List.reduceReplicate, show (0 : Int) < n by omega]
        refine ⟨1, by omega, by omega, ?_⟩
        simp [go_sem, zs, -List.reduceReplicate]
      · by_cases hlt : (k : Int) < n
        · simp [go_sem, newS, -List.reduceReplicate, h0, hlt]
          refine ⟨⟨by omega, by omega⟩, k + 1, by omega, by omega, ?_⟩
          simp [go_sem, zs, -List.reduceReplicate]
          exact List.replicate_succ'.symm
        · have hkn : n = k := by omega
          subst hkn
          simp [go_sem, newS, -List.reduceReplicate, h0, r17, newR, newFl, Fl.enc, encP, h1, h2]

theorem rnew_ok (n : Int) : PureC Try.prog 18 [.i .i64 n] (· = newR n) := by
  refine pure_of mix ok18 (by simp) ?_
  unfold c18
  simp +contextual -implicitDefEqProofs [go_sem]
  refine ⟨fun h => ?_, fun h1 h2 => ?_⟩
  · simp [go_sem, r18, newR, nilFl]
    omega
  · refine AS_loop (α := Nat) (fun k => (k : Int) ≤ n) (fun k => newS n [(5, .i .i64 k)] k) (fun k => n.toNat - k) 0 (by simp; omega) ?_ ?_
    · simp [go_sem, newS]
    · intro k hk
      by_cases h0 : k = 0
      · subst h0
        simp [go_sem, newS, -List.reduceReplicate, show (0 : Int) < n by omega]
        refine DCall_is (zeros_ok.is rfl) ?_
        simp (disch := omega) [go_sem, wrap64_small]
        refine ⟨1, by omega, by omega, ?_⟩
        simp [go_sem, -List.reduceReplicate]
      · by_cases hlt : (k : Int) < n
        · simp [go_sem, newS, -List.reduceReplicate, h0, hlt]
          refine DCall_is (zeros_ok.is rfl) ?_
          simp (disch := omega) [go_sem, wrap64_small]
          refine ⟨⟨by omega, by omega⟩, k + 1, by omega, by omega, ?_⟩
          simp [go_sem, -List.reduceReplicate]
          exact List.replicate_succ'.symm
        · have hkn : n = k := by omega
          subst hkn
          simp [go_sem, newS, -List.reduceReplicate, h0, r18, newR, newFl, Fl.enc, encP, h1, h2]


end Go.Proofs.Ytedcbjgnidjidaa
