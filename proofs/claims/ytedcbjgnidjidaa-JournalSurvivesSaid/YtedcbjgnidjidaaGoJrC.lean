/- Records: validity and encoding, by values. -/
import Derived.Test.YtedcbjgnidjidaaGoJrB
set_option linter.unusedVariables false
set_option linter.unusedSimpArgs false
namespace Go.Abs

structure Q4 where
  a : Int
  b : Int
  c : Int
  d : Int
deriving DecidableEq
def Q4.cs (q : Q4) : List V := [.i .i64 q.a, .i .i64 q.b, .i .i64 q.c, .i .i64 q.d]
def Q4.enc (q : Q4) : V := .a q.cs
theorem qcs (q : Q4) : q.cs = [.i .i64 q.a, .i .i64 q.b, .i .i64 q.c, .i .i64 q.d] := _root_.id rfl
structure Rec where
  kind : Int
  seq : Int
  line : Int
  done : Int
  fr : Q4
  to : Q4
deriving DecidableEq
def Rec.cs (r : Rec) : List V := [.i .i64 r.kind, .i .i64 r.seq, .i .i64 r.line, .i .i64 r.done, .i .i64 r.fr.a, .i .i64 r.fr.b, .i .i64 r.fr.c, .i .i64 r.fr.d, .i .i64 r.to.a, .i .i64 r.to.b, .i .i64 r.to.c, .i .i64 r.to.d]
def Rec.enc (r : Rec) : V := .a r.cs
theorem rcs (r : Rec) : r.cs = [.i .i64 r.kind, .i .i64 r.seq, .i .i64 r.line, .i .i64 r.done, .i .i64 r.fr.a, .i .i64 r.fr.b, .i .i64 r.fr.c, .i .i64 r.fr.d, .i .i64 r.to.a, .i .i64 r.to.b, .i .i64 r.to.c, .i .i64 r.to.d] := _root_.id rfl

def s32 (n : Int) : Prop := -2147483648 ≤ n ∧ n < 2147483648
def Q4.small (q : Q4) : Prop := s32 q.a ∧ s32 q.b ∧ s32 q.c ∧ s32 q.d
instance (n : Int) : Decidable (s32 n) := inferInstanceAs (Decidable (_ ∧ _))
instance (q : Q4) : Decidable q.small := inferInstanceAs (Decidable (_ ∧ _))
def Rec.head (r : Rec) : Prop := 1 ≤ r.kind ∧ r.kind ≤ 3 ∧ 1 ≤ r.seq ∧ r.seq ≤ 1099511627776 ∧ 0 ≤ r.line ∧ r.line ≤ 1099511627776 ∧ 0 ≤ r.done ∧ r.done ≤ 16777216
instance (r : Rec) : Decidable r.head := inferInstanceAs (Decidable (_ ∧ _))
def Rec.good (r : Rec) : Prop := r.head ∧ r.fr.small ∧ r.to.small
instance (r : Rec) : Decidable r.good := inferInstanceAs (Decidable (_ ∧ _))
def Rec.valid (r : Rec) : Bool := decide r.good

def pos (q : Q4) : List UInt8 := be 4 (u64 q.a) ++ be 4 (u64 q.b) ++ be 4 (u64 q.c) ++ be 4 (u64 q.d)
def posN (q : Q4) : Nat → List UInt8
  | 0 => []
  | 1 => be 4 (u64 q.a)
  | 2 => be 4 (u64 q.a) ++ be 4 (u64 q.b)
  | 3 => be 4 (u64 q.a) ++ be 4 (u64 q.b) ++ be 4 (u64 q.c)
  | _ => pos q
def headB (r : Rec) : List UInt8 := be 6 r.seq.toNat ++ be 1 r.kind.toNat ++ be 6 r.line.toNat ++ be 4 r.done.toNat
def bodyB (r : Rec) : List UInt8 := headB r ++ pos r.fr ++ pos r.to
def recB (r : Rec) : List UInt8 := bodyB r ++ be 2 (crc (bodyB r)) ++ List.replicate 7 0 ++ be 6 r.seq.toNat
theorem pos_len (q : Q4) : (pos q).length = 16 := by simp [pos, be_len]
theorem posN_le (q : Q4) (j : Nat) : (posN q j).length ≤ 16 := by
  unfold posN; split <;> simp [be_len, pos_len]
theorem headB_len (r : Rec) : (headB r).length = 17 := by simp [headB, be_len]
theorem bodyB_len (r : Rec) : (bodyB r).length = 49 := by simp [bodyB, headB_len, pos_len]
theorem recB_len (r : Rec) : (recB r).length = 64 := by simp [recB, bodyB_len, be_len]
def encV (r : Rec) : V := if r.good then .t [.s (recB r), .i .i64 0] else .t [.s [], .i .i64 1]

def RecValidC (P : Program) (f : FuncId) : Prop := ∀ r : Rec, CallIs P f [r.enc] (.b r.valid)
def RecEncC (P : Program) (f : FuncId) : Prop := ∀ r : Rec, CallIs P f [r.enc] (encV r)
def SmallQC (P : Program) (f : FuncId) : Prop := ∀ q : Q4, CallIs P f [q.enc] (.b (decide q.small))
def UnsC (P : Program) (f : FuncId) : Prop := ∀ (n : Int) (w : Nat), Wd w → 0 ≤ n → n < (256 ^ w : Nat) → CallIs P f [.i .i64 n, .i .i64 w] (.s (be w n.toNat))
def PosC (P : Program) (f : FuncId) : Prop := ∀ q : Q4, q.small → CallIs P f [q.enc] (.s (pos q))
def EPutC (P : Program) (f : FuncId) : Prop := ∀ (h : List O) (id : Nat) (s part : List UInt8) (n w e : Int) (fa : FuncId), h[id]? = some (.arr 1 1 [[.s s]]) → callable P fa = true →
  CallIs P fa [.i .i64 n, .i .i64 w] (.t [.s part, .i .i64 e]) → s.length + part.length ≤ 9223372036854775807 →
  ACall P f [.p id 1 0 0, .i .i64 n, .i .i64 w, .f fa []] h (fun r h' => r = .t [] ∧ h' = h.set id (.arr 1 1 [[.s (s ++ part)]]))

theorem ACall_eq {P : Program} {f : FuncId} {vs : List V} {h h1 : List O} {r : V} {k : V → List O → Prop} (hc : ACall P f vs h (fun r' h' => r' = r ∧ h' = h1)) (hk : k r h1) : ACall P f vs h k :=
  hc.mono fun r' h' hh => by rw [hh.1, hh.2]; exact hk

theorem uintV_ok {w : Nat} {n : Int} (h0 : 0 ≤ n) (h1 : n < (256 ^ w : Nat)) : uintV w n = .t [.s (be w n.toNat), .i .i64 0] := by
  unfold uintV; rw [if_neg (by omega)]
theorem intV_ok {n : Int} (h : s32 n) : intV n = .t [.s (be 4 (u64 n)), .i .i64 0] := by
  unfold intV; rw [if_neg (by unfold s32 at h; omega)]
theorem padV_ok {s : List UInt8} {n : Nat} (h : s.length ≤ n) : padV s n = .t [.s (s ++ List.replicate (n - s.length) 0), .i .i64 0] := by
  unfold padV; rw [if_neg (by omega)]

section
variable {P : Program} (hm : P.follows .mixedOrders = true)
include hm

theorem ref52_small_ok {f : FuncId} (hf : FnOk P f ref52_small.c ref52_small.r ref52_small.n) : SmallQC P f := by
  intro q
  refine PureC.is (pure_of hm hf (Nat.le_of_ble_eq_true rfl) ?_) rfl
  unfold ref52_small.c
  simp [go_sem, Q4.enc, qcs]
  refine AS_loop (α := Nat) (fun j => j ≤ 4 ∧ (0 < j → s32 q.a) ∧ (1 < j → s32 q.b) ∧ (2 < j → s32 q.c) ∧ (3 < j → s32 q.d))
    (fun j => ⟨[(1, .p 0 1 0 0), (3, .i .i64 j)], [.arr 1 4 [q.cs]]⟩) (fun j => 4 - j) 0 (by simp) ?_ ?_
  · simp [go_sem, qcs]
  · rintro j ⟨hj, ha, hb, hc, hd⟩
    obtain rfl | rfl | rfl | rfl | rfl : j = 0 ∨ j = 1 ∨ j = 2 ∨ j = 3 ∨ j = 4 := by omega
    · by_cases h : s32 q.a
      · have h' := h
        unfold s32 at h'
        simp +contextual -implicitDefEqProofs [go_sem, qcs, show ¬ q.a < -2147483648 by omega, show ¬ 2147483648 ≤ q.a by omega]
        simp (disch := omega) [go_sem, wrap64_small]
        refine ⟨1, ⟨by omega, by simp_all⟩, by omega, ?_⟩
        simp [go_sem, qcs]
      · have h' := h
        unfold s32 at h'
        have h2 : ¬ q.small := fun hh => h (by unfold Q4.small at hh; simp_all)
        by_cases h3 : q.a < -2147483648
        · simp +contextual -implicitDefEqProofs [go_sem, qcs, h3, ref52_small.r, h2]
        · simp +contextual -implicitDefEqProofs [go_sem, qcs, h3, show 2147483648 ≤ q.a by omega, ref52_small.r, h2]
    · by_cases h : s32 q.b
      · have h' := h
        unfold s32 at h'
        simp +contextual -implicitDefEqProofs [go_sem, qcs, show ¬ q.b < -2147483648 by omega, show ¬ 2147483648 ≤ q.b by omega]
        simp (disch := omega) [go_sem, wrap64_small]
        refine ⟨2, ⟨by omega, by simp_all⟩, by omega, ?_⟩
        simp [go_sem, qcs]
      · have h' := h
        unfold s32 at h'
        have h2 : ¬ q.small := fun hh => h (by unfold Q4.small at hh; simp_all)
        by_cases h3 : q.b < -2147483648
        · simp +contextual -implicitDefEqProofs [go_sem, qcs, h3, ref52_small.r, h2]
        · simp +contextual -implicitDefEqProofs [go_sem, qcs, h3, show 2147483648 ≤ q.b by omega, ref52_small.r, h2]
    · by_cases h : s32 q.c
      · have h' := h
        unfold s32 at h'
        simp +contextual -implicitDefEqProofs [go_sem, qcs, show ¬ q.c < -2147483648 by omega, show ¬ 2147483648 ≤ q.c by omega]
        simp (disch := omega) [go_sem, wrap64_small]
        refine ⟨3, ⟨by omega, by simp_all⟩, by omega, ?_⟩
        simp [go_sem, qcs]
      · have h' := h
        unfold s32 at h'
        have h2 : ¬ q.small := fun hh => h (by unfold Q4.small at hh; simp_all)
        by_cases h3 : q.c < -2147483648
        · simp +contextual -implicitDefEqProofs [go_sem, qcs, h3, ref52_small.r, h2]
        · simp +contextual -implicitDefEqProofs [go_sem, qcs, h3, show 2147483648 ≤ q.c by omega, ref52_small.r, h2]
    · by_cases h : s32 q.d
      · have h' := h
        unfold s32 at h'
        simp +contextual -implicitDefEqProofs [go_sem, qcs, show ¬ q.d < -2147483648 by omega, show ¬ 2147483648 ≤ q.d by omega]
        simp (disch := omega) [go_sem, wrap64_small]
        refine ⟨4, ⟨by omega, by simp_all⟩, by omega, ?_⟩
        simp [go_sem, qcs]
      · have h' := h
        unfold s32 at h'
        have h2 : ¬ q.small := fun hh => h (by unfold Q4.small at hh; simp_all)
        by_cases h3 : q.d < -2147483648
        · simp +contextual -implicitDefEqProofs [go_sem, qcs, h3, ref52_small.r, h2]
        · simp +contextual -implicitDefEqProofs [go_sem, qcs, h3, show 2147483648 ≤ q.d by omega, ref52_small.r, h2]
    · simp [go_sem, ref52_small.r, Q4.small, ha (by omega), hb (by omega), hc (by omega), hd (by omega)]

theorem ref52_Valid_ok {f fs : FuncId} (hf : FnOk P f (ref52_Valid.c fs) ref52_Valid.r ref52_Valid.n) (hs : SmallQC P fs) : RecValidC P f := by
  intro r
  refine PureC.is (pure_of hm hf (Nat.le_of_ble_eq_true rfl) ?_) rfl
  unfold ref52_Valid.c
  by_cases hh : r.head
  · have hh' := hh
    obtain ⟨h1, h2, h3, h4, h5, h6, h7, h8⟩ := hh'
    simp [go_sem, Rec.enc, rcs, h1, h2, h3, h4, h5, h6, h7, h8]
    refine ACall_is (hs r.fr) ?_
    by_cases h9 : r.fr.small
    · simp [go_sem, h9]
      refine ACall_is (hs r.to) ?_
      by_cases h10 : r.to.small
      · simp [go_sem, h10, ref52_Valid.r, Rec.valid, Rec.good, hh, h9]
      · simp [go_sem, h10, ref52_Valid.r, Rec.valid, Rec.good, hh, h9]
    · simp [go_sem, h9, ref52_Valid.r, Rec.valid, Rec.good]
  · have hB : (decide (1 ≤ r.kind) && decide (r.kind ≤ 3) && decide (1 ≤ r.seq) && decide (r.seq ≤ 1099511627776) && decide (0 ≤ r.line) && decide (r.line ≤ 1099511627776) && decide (0 ≤ r.done) && decide (r.done ≤ 16777216)) = false := by
      rw [Bool.eq_false_iff]
      intro hb
      simp only [Bool.and_eq_true, decide_eq_true_eq] at hb
      exact hh (by unfold Rec.head; omega)
    simp +contextual -implicitDefEqProofs [go_sem, Rec.enc, rcs]
    rw [hB]
    simp [go_sem, ref52_Valid.r, Rec.valid, Rec.good, hh]

set_option maxHeartbeats 4000000 in
theorem journal_Valid_ok {f : FuncId} (hf : FnOk P f journal_Valid.c journal_Valid.r journal_Valid.n) : RecValidC P f := by
  intro r
  refine PureC.is (pure_of hm hf (Nat.le_of_ble_eq_true rfl) ?_) rfl
  unfold journal_Valid.c
  by_cases hh : r.head
  · have hh' := hh
    obtain ⟨h1, h2, h3, h4, h5, h6, h7, h8⟩ := hh'
    simp [go_sem, Rec.enc, rcs, show ¬ r.kind < 1 by omega, show ¬ 3 < r.kind by omega, show ¬ r.seq < 1 by omega, show ¬ 1099511627776 < r.seq by omega, show ¬ r.line < 0 by omega, show ¬ 1099511627776 < r.line by omega, show ¬ r.done < 0 by omega, show ¬ 16777216 < r.done by omega]
    refine AS_loop (α := Nat) (fun i => i ≤ 2 ∧ (0 < i → r.fr.small) ∧ (1 < i → r.to.small))
      (fun i => ⟨[(49, .a (r.fr.cs ++ r.to.cs)), (50, .i .i64 i)], []⟩) (fun i => 2 - i) 0 (by simp) ?_ ?_
    · simp [go_sem, qcs]
    · rintro i ⟨hi, hfr, hto⟩
      obtain rfl | rfl | rfl : i = 0 ∨ i = 1 ∨ i = 2 := by omega
      · simp [go_sem, qcs]
        refine AS_loop (α := Nat) (fun j => j ≤ 4 ∧ (0 < j → s32 r.fr.a) ∧ (1 < j → s32 r.fr.b) ∧ (2 < j → s32 r.fr.c) ∧ (3 < j → s32 r.fr.d))
          (fun j => ⟨[(49, .a (r.fr.cs ++ r.to.cs)), (50, .i .i64 0), (53, .a r.fr.cs), (54, .i .i64 j)], []⟩) (fun j => 4 - j) 0 (by simp) ?_ ?_
        · simp [go_sem, qcs]
        · rintro j ⟨hj, ha, hb, hc, hd⟩
          obtain rfl | rfl | rfl | rfl | rfl : j = 0 ∨ j = 1 ∨ j = 2 ∨ j = 3 ∨ j = 4 := by omega
          · by_cases h : s32 r.fr.a
            · have h' := h
              unfold s32 at h'
              simp +contextual -implicitDefEqProofs [go_sem, qcs, show ¬ r.fr.a < -2147483648 by omega, show ¬ 2147483648 ≤ r.fr.a by omega]
              simp (disch := omega) [go_sem, wrap64_small]
              refine ⟨1, ⟨by omega, by simp_all⟩, by omega, ?_⟩
              simp [go_sem, qcs]
            · have h' := h
              unfold s32 at h'
              have h2 : ¬ r.fr.small := fun hh => h (by unfold Q4.small at hh; simp_all)
              by_cases h3 : r.fr.a < -2147483648
              · simp +contextual -implicitDefEqProofs [go_sem, qcs, h3, journal_Valid.r, h2, Rec.valid, Rec.good]
              · simp +contextual -implicitDefEqProofs [go_sem, qcs, h3, show 2147483648 ≤ r.fr.a by omega, journal_Valid.r, h2, Rec.valid, Rec.good]
          · by_cases h : s32 r.fr.b
            · have h' := h
              unfold s32 at h'
              simp +contextual -implicitDefEqProofs [go_sem, qcs, show ¬ r.fr.b < -2147483648 by omega, show ¬ 2147483648 ≤ r.fr.b by omega]
              simp (disch := omega) [go_sem, wrap64_small]
              refine ⟨2, ⟨by omega, by simp_all⟩, by omega, ?_⟩
              simp [go_sem, qcs]
            · have h' := h
              unfold s32 at h'
              have h2 : ¬ r.fr.small := fun hh => h (by unfold Q4.small at hh; simp_all)
              by_cases h3 : r.fr.b < -2147483648
              · simp +contextual -implicitDefEqProofs [go_sem, qcs, h3, journal_Valid.r, h2, Rec.valid, Rec.good]
              · simp +contextual -implicitDefEqProofs [go_sem, qcs, h3, show 2147483648 ≤ r.fr.b by omega, journal_Valid.r, h2, Rec.valid, Rec.good]
          · by_cases h : s32 r.fr.c
            · have h' := h
              unfold s32 at h'
              simp +contextual -implicitDefEqProofs [go_sem, qcs, show ¬ r.fr.c < -2147483648 by omega, show ¬ 2147483648 ≤ r.fr.c by omega]
              simp (disch := omega) [go_sem, wrap64_small]
              refine ⟨3, ⟨by omega, by simp_all⟩, by omega, ?_⟩
              simp [go_sem, qcs]
            · have h' := h
              unfold s32 at h'
              have h2 : ¬ r.fr.small := fun hh => h (by unfold Q4.small at hh; simp_all)
              by_cases h3 : r.fr.c < -2147483648
              · simp +contextual -implicitDefEqProofs [go_sem, qcs, h3, journal_Valid.r, h2, Rec.valid, Rec.good]
              · simp +contextual -implicitDefEqProofs [go_sem, qcs, h3, show 2147483648 ≤ r.fr.c by omega, journal_Valid.r, h2, Rec.valid, Rec.good]
          · by_cases h : s32 r.fr.d
            · have h' := h
              unfold s32 at h'
              simp +contextual -implicitDefEqProofs [go_sem, qcs, show ¬ r.fr.d < -2147483648 by omega, show ¬ 2147483648 ≤ r.fr.d by omega]
              simp (disch := omega) [go_sem, wrap64_small]
              refine ⟨4, ⟨by omega, by simp_all⟩, by omega, ?_⟩
              simp [go_sem, qcs]
            · have h' := h
              unfold s32 at h'
              have h2 : ¬ r.fr.small := fun hh => h (by unfold Q4.small at hh; simp_all)
              by_cases h3 : r.fr.d < -2147483648
              · simp +contextual -implicitDefEqProofs [go_sem, qcs, h3, journal_Valid.r, h2, Rec.valid, Rec.good]
              · simp +contextual -implicitDefEqProofs [go_sem, qcs, h3, show 2147483648 ≤ r.fr.d by omega, journal_Valid.r, h2, Rec.valid, Rec.good]
          · have hq : r.fr.small := ⟨ha (by omega), hb (by omega), hc (by omega), hd (by omega)⟩
            simp (disch := omega) [go_sem, wrap64_small]
            refine ⟨1, ⟨by omega, by simp_all⟩, by omega, ?_⟩
            simp [go_sem, qcs]
      · simp [go_sem, qcs]
        refine AS_loop (α := Nat) (fun j => j ≤ 4 ∧ (0 < j → s32 r.to.a) ∧ (1 < j → s32 r.to.b) ∧ (2 < j → s32 r.to.c) ∧ (3 < j → s32 r.to.d))
          (fun j => ⟨[(49, .a (r.fr.cs ++ r.to.cs)), (50, .i .i64 1), (53, .a r.to.cs), (54, .i .i64 j)], []⟩) (fun j => 4 - j) 0 (by simp) ?_ ?_
        · simp [go_sem, qcs]
        · rintro j ⟨hj, ha, hb, hc, hd⟩
          obtain rfl | rfl | rfl | rfl | rfl : j = 0 ∨ j = 1 ∨ j = 2 ∨ j = 3 ∨ j = 4 := by omega
          · by_cases h : s32 r.to.a
            · have h' := h
              unfold s32 at h'
              simp +contextual -implicitDefEqProofs [go_sem, qcs, show ¬ r.to.a < -2147483648 by omega, show ¬ 2147483648 ≤ r.to.a by omega]
              simp (disch := omega) [go_sem, wrap64_small]
              refine ⟨1, ⟨by omega, by simp_all⟩, by omega, ?_⟩
              simp [go_sem, qcs]
            · have h' := h
              unfold s32 at h'
              have h2 : ¬ r.to.small := fun hh => h (by unfold Q4.small at hh; simp_all)
              by_cases h3 : r.to.a < -2147483648
              · simp +contextual -implicitDefEqProofs [go_sem, qcs, h3, journal_Valid.r, h2, Rec.valid, Rec.good]
              · simp +contextual -implicitDefEqProofs [go_sem, qcs, h3, show 2147483648 ≤ r.to.a by omega, journal_Valid.r, h2, Rec.valid, Rec.good]
          · by_cases h : s32 r.to.b
            · have h' := h
              unfold s32 at h'
              simp +contextual -implicitDefEqProofs [go_sem, qcs, show ¬ r.to.b < -2147483648 by omega, show ¬ 2147483648 ≤ r.to.b by omega]
              simp (disch := omega) [go_sem, wrap64_small]
              refine ⟨2, ⟨by omega, by simp_all⟩, by omega, ?_⟩
              simp [go_sem, qcs]
            · have h' := h
              unfold s32 at h'
              have h2 : ¬ r.to.small := fun hh => h (by unfold Q4.small at hh; simp_all)
              by_cases h3 : r.to.b < -2147483648
              · simp +contextual -implicitDefEqProofs [go_sem, qcs, h3, journal_Valid.r, h2, Rec.valid, Rec.good]
              · simp +contextual -implicitDefEqProofs [go_sem, qcs, h3, show 2147483648 ≤ r.to.b by omega, journal_Valid.r, h2, Rec.valid, Rec.good]
          · by_cases h : s32 r.to.c
            · have h' := h
              unfold s32 at h'
              simp +contextual -implicitDefEqProofs [go_sem, qcs, show ¬ r.to.c < -2147483648 by omega, show ¬ 2147483648 ≤ r.to.c by omega]
              simp (disch := omega) [go_sem, wrap64_small]
              refine ⟨3, ⟨by omega, by simp_all⟩, by omega, ?_⟩
              simp [go_sem, qcs]
            · have h' := h
              unfold s32 at h'
              have h2 : ¬ r.to.small := fun hh => h (by unfold Q4.small at hh; simp_all)
              by_cases h3 : r.to.c < -2147483648
              · simp +contextual -implicitDefEqProofs [go_sem, qcs, h3, journal_Valid.r, h2, Rec.valid, Rec.good]
              · simp +contextual -implicitDefEqProofs [go_sem, qcs, h3, show 2147483648 ≤ r.to.c by omega, journal_Valid.r, h2, Rec.valid, Rec.good]
          · by_cases h : s32 r.to.d
            · have h' := h
              unfold s32 at h'
              simp +contextual -implicitDefEqProofs [go_sem, qcs, show ¬ r.to.d < -2147483648 by omega, show ¬ 2147483648 ≤ r.to.d by omega]
              simp (disch := omega) [go_sem, wrap64_small]
              refine ⟨4, ⟨by omega, by simp_all⟩, by omega, ?_⟩
              simp [go_sem, qcs]
            · have h' := h
              unfold s32 at h'
              have h2 : ¬ r.to.small := fun hh => h (by unfold Q4.small at hh; simp_all)
              by_cases h3 : r.to.d < -2147483648
              · simp +contextual -implicitDefEqProofs [go_sem, qcs, h3, journal_Valid.r, h2, Rec.valid, Rec.good]
              · simp +contextual -implicitDefEqProofs [go_sem, qcs, h3, show 2147483648 ≤ r.to.d by omega, journal_Valid.r, h2, Rec.valid, Rec.good]
          · have hq : r.to.small := ⟨ha (by omega), hb (by omega), hc (by omega), hd (by omega)⟩
            simp (disch := omega) [go_sem, wrap64_small]
            refine ⟨2, ⟨by omega, by simp_all⟩, by omega, ?_⟩
            simp [go_sem, qcs]
      · simp [go_sem, journal_Valid.r, Rec.valid, Rec.good, hh, hfr (by omega), hto (by omega)]
  · have hB : (decide (r.kind < 1) || decide (3 < r.kind) || decide (r.seq < 1) || decide (1099511627776 < r.seq) || decide (r.line < 0) || decide (1099511627776 < r.line) || decide (r.done < 0) || decide (16777216 < r.done)) = true := by
      simp only [Bool.or_eq_true, decide_eq_true_eq]
      unfold Rec.head at hh
      omega
    simp +contextual -implicitDefEqProofs [go_sem, Rec.enc, rcs]
    refine ⟨fun _ => ?_, fun h => ?_⟩
    · simp [go_sem, journal_Valid.r, Rec.valid, Rec.good, hh]
    · intros
      exfalso
      unfold Rec.head at hh
      simp only [Bool.or_eq_true, decide_eq_true_eq] at hB

      omega

theorem ref52_unsigned_ok {f fu : FuncId} (hf : FnOk P f (ref52_unsigned.c fu) ref52_unsigned.r ref52_unsigned.n) (hu : UintC P fu) : UnsC P f := by
  intro n w hw h0 h1
  refine PureC.is (pure_of hm hf (Nat.le_of_ble_eq_true rfl) ?_) rfl
  unfold ref52_unsigned.c
  simp [go_sem]
  have hb : (256 : Nat) ^ w ≤ 9223372036854775807 := by rcases hw with rfl | rfl | rfl | rfl <;> simp
  refine ACall_is (hu n w hw (by omega)) ?_
  rw [uintV_ok h0 h1]
  simp [go_sem, ref52_unsigned.r]

theorem ref52_positions_ok {f fi : FuncId} (hf : FnOk P f (ref52_positions.c fi) ref52_positions.r ref52_positions.n) (hi : IntC P fi) : PosC P f := by
  intro q hq
  obtain ⟨qa, qb, qc, qd⟩ := hq
  refine PureC.is (pure_of hm hf (Nat.le_of_ble_eq_true rfl) ?_) rfl
  unfold ref52_positions.c
  simp [go_sem, Q4.enc, qcs]
  refine AS_loop (α := Nat) (fun j => j ≤ 4) (fun j => ⟨[(1, .p 0 1 0 0), (3, .s (posN q j)), (4, .i .i64 j)], [.arr 1 4 [q.cs]]⟩) (fun j => 4 - j) 0 (by simp) ?_ ?_
  · simp [go_sem, qcs, posN]
  · intro j hj
    obtain rfl | rfl | rfl | rfl | rfl : j = 0 ∨ j = 1 ∨ j = 2 ∨ j = 3 ∨ j = 4 := by omega
    · simp [go_sem, qcs, posN]
      refine ACall_is (hi q.a) ?_
      rw [intV_ok qa]
      simp [go_sem, be_len]
      simp (disch := omega) [go_sem, wrap64_small]
      refine ⟨1, by omega, by omega, ?_⟩
      simp [go_sem, qcs, posN, pos]
    · simp [go_sem, qcs, posN]
      refine ACall_is (hi q.b) ?_
      rw [intV_ok qb]
      simp [go_sem, be_len]
      simp (disch := omega) [go_sem, wrap64_small]
      refine ⟨2, by omega, by omega, ?_⟩
      simp [go_sem, qcs, posN, pos]
    · simp [go_sem, qcs, posN]
      refine ACall_is (hi q.c) ?_
      rw [intV_ok qc]
      simp [go_sem, be_len]
      simp (disch := omega) [go_sem, wrap64_small]
      refine ⟨3, by omega, by omega, ?_⟩
      simp [go_sem, qcs, posN, pos]
    · simp [go_sem, qcs, posN]
      refine ACall_is (hi q.d) ?_
      rw [intV_ok qd]
      simp [go_sem, be_len]
      simp (disch := omega) [go_sem, wrap64_small]
      refine ⟨4, by omega, by omega, ?_⟩
      simp [go_sem, qcs, posN, pos]
    · simp [go_sem, ref52_positions.r, posN]

theorem journal_put_ok {f : FuncId} (hf : FnOk P f journal_encoder_put.c journal_encoder_put.r journal_encoder_put.n) : EPutC P f := by
  intro h id s part n w e fa hid hcl hfa hlen
  refine call_keep hm hf (Nat.le_of_ble_eq_true rfl) ?_
  unfold journal_encoder_put.c
  simp [go_sem, hcl]
  refine ACall_is hfa ?_
  simp [go_sem, hid, hlen, journal_encoder_put.r]

theorem ref52_Encode_ok {f fv fu fp fc fd : FuncId} (hf : FnOk P f (ref52_Encode.c fv fu fp fc fd) ref52_Encode.r ref52_Encode.n) (hv : RecValidC P fv) (hu : UnsC P fu) (hp : PosC P fp) (hc : CrcC P fc) (hd : PadC P fd) : RecEncC P f := by
  intro r
  refine PureC.is (pure_of hm hf (Nat.le_of_ble_eq_true rfl) ?_) rfl
  unfold ref52_Encode.c
  simp [go_sem, Rec.enc, rcs]
  refine ACall_is (hv r) ?_
  by_cases hg : r.good
  · obtain ⟨hh, hfr, hto⟩ := id hg
    obtain ⟨h1, h2, h3, h4, h5, h6, h7, h8⟩ := hh
    simp [go_sem, Rec.valid, hg]
    refine DCall_is (hu r.seq 6 (by simp [Wd]) (by omega) (by omega)) ?_
    simp [go_sem]
    refine DCall_is (hu r.kind 1 (by simp [Wd]) (by omega) (by omega)) ?_
    simp [go_sem, be_len]
    refine DCall_is (hu r.line 6 (by simp [Wd]) (by omega) (by omega)) ?_
    simp [go_sem, be_len]
    refine DCall_is (hu r.done 4 (by simp [Wd]) (by omega) (by omega)) ?_
    simp [go_sem, be_len]
    refine DCall_is (hp r.fr hfr) ?_
    simp [go_sem, be_len, pos_len]
    refine DCall_is (hp r.to hto) ?_
    simp [go_sem, be_len, pos_len]
    have hbd : be 6 r.seq.toNat ++ (be 1 r.kind.toNat ++ (be 6 r.line.toNat ++ (be 4 r.done.toNat ++ (pos r.fr ++ pos r.to)))) = bodyB r := by simp [bodyB, headB]
    rw [hbd]
    have hcl := crc_lt (bodyB r)
    refine ACall_is (hc (bodyB r) (by rw [bodyB_len]; omega)) ?_
    simp [go_sem]
    refine ACall_is (hu (crc (bodyB r)) 2 (by simp [Wd]) (by omega) (by omega)) ?_
    simp [go_sem, bodyB_len, be_len]
    refine ACall_is (hd _ 58 (by simp [bodyB_len, be_len]) (by omega)) ?_
    rw [padV_ok (by simp [bodyB_len, be_len])]
    simp [go_sem, bodyB_len, be_len]
    refine ACall_is (hu r.seq 6 (by simp [Wd]) (by omega) (by omega)) ?_
    simp [go_sem, bodyB_len, be_len, ref52_Encode.r, encV, hg, recB]
  · simp [go_sem, Rec.valid, hg, ref52_Encode.r, encV]

omit hm in
theorem EPutC.uint {f fa : FuncId} (hp : EPutC P f) (hu : UintC P fa) (hcl : callable P fa = true) {h : List O} {id : Nat} {s : List UInt8} {n : Int} (w : Nat) (hid : h[id]? = some (.arr 1 1 [[.s s]])) (hw : Wd w) (h0 : 0 ≤ n) (h1 : n < (256 ^ w : Nat)) (hs : s.length ≤ 1000) :
    ACall P f [.p id 1 0 0, .i .i64 n, .i .i64 w, .f fa []] h (fun r h' => r = .t [] ∧ h' = h.set id (.arr 1 1 [[.s (s ++ be w n.toNat)]])) := by
  have hb : (256 : Nat) ^ w ≤ 9223372036854775807 := by rcases hw with rfl | rfl | rfl | rfl <;> simp
  have hw8 : w ≤ 6 := by unfold Wd at hw; omega
  refine hp h id s _ n w 0 fa hid hcl ?_ (by rw [be_len]; omega)
  have := hu n w hw (by omega)
  rw [uintV_ok h0 h1] at this
  exact this
omit hm in
theorem EPutC.int {f fa : FuncId} (hp : EPutC P f) (hi : IntC P fa) (hcl : callable P fa = true) {h : List O} {id : Nat} {s : List UInt8} {n : Int} (hid : h[id]? = some (.arr 1 1 [[.s s]])) (h0 : s32 n) (hs : s.length ≤ 1000) :
    ACall P f [.p id 1 0 0, .i .i64 n, .i .i64 4, .f fa []] h (fun r h' => r = .t [] ∧ h' = h.set id (.arr 1 1 [[.s (s ++ be 4 (u64 n))]])) := by
  refine hp h id s _ n 4 0 fa hid hcl ?_ (by rw [be_len]; omega)
  have := hi n
  rw [intV_ok h0] at this
  exact this

set_option maxHeartbeats 8000000 in
set_option maxRecDepth 4000 in
theorem journal_Encode_ok {f fv fe fu fi fc fd : FuncId} (hf : FnOk P f (journal_Encode.c fv fe fu fi fc fd) journal_Encode.r journal_Encode.n) (hv : RecValidC P fv) (he : EPutC P fe) (hu : UintC P fu) (hi : IntC P fi) (hc : CrcC P fc) (hd : PadC P fd)
    (cu : callable P fu = true) (ci : callable P fi = true) : RecEncC P f := by
  intro r
  refine PureC.is (pure_of hm hf (Nat.le_of_ble_eq_true rfl) ?_) rfl
  unfold journal_Encode.c
  simp [go_sem, Rec.enc, rcs]
  refine ACall_is (hv r) ?_
  by_cases hg : r.good
  · obtain ⟨hh, hfr, hto⟩ := id hg
    obtain ⟨h1, h2, h3, h4, h5, h6, h7, h8⟩ := hh
    simp [go_sem, Rec.valid, hg]
    refine ACall_eq (he.uint hu cu 6 rfl (by simp [Wd]) (by omega) (by omega) (by simp)) ?_
    simp [go_sem]
    refine ACall_eq (he.uint hu cu 1 rfl (by simp [Wd]) (by omega) (by omega) (by simp [be_len])) ?_
    simp [go_sem]
    refine ACall_eq (he.uint hu cu 6 rfl (by simp [Wd]) (by omega) (by omega) (by simp [be_len])) ?_
    simp [go_sem]
    refine ACall_eq (he.uint hu cu 4 rfl (by simp [Wd]) (by omega) (by omega) (by simp [be_len])) ?_
    simp [go_sem]
    have hhd : be 6 r.seq.toNat ++ (be 1 r.kind.toNat ++ (be 6 r.line.toNat ++ be 4 r.done.toNat)) = headB r := by simp [headB]
    rw [hhd]
    refine AS_loop (α := Nat) (fun i => i ≤ 2)
      (fun i => ⟨[(1, .p 0 1 0 0), (4, .p 1 1 0 0), (34, .a (r.fr.cs ++ r.to.cs)), (35, .i .i64 i)], [.arr 1 12 [r.cs], .arr 1 1 [[.s (headB r ++ (if i = 0 then [] else if i = 1 then pos r.fr else pos r.fr ++ pos r.to))]]]⟩) (fun i => 2 - i) 0 (by simp) ?_ ?_
    · simp [go_sem, qcs, rcs]
    · intro i hi2
      obtain rfl | rfl | rfl : i = 0 ∨ i = 1 ∨ i = 2 := by omega
      · simp [go_sem, qcs, rcs]
        refine AS_loop (α := Nat) (fun j => j ≤ 4)
          (fun j => ⟨[(1, .p 0 1 0 0), (4, .p 1 1 0 0), (34, .a (r.fr.cs ++ r.to.cs)), (35, .i .i64 0), (38, .a r.fr.cs), (39, .i .i64 j)], [.arr 1 12 [r.cs], .arr 1 1 [[.s (headB r ++ posN r.fr j)]]]⟩) (fun j => 4 - j) 0 (by simp) ?_ ?_
        · simp [go_sem, qcs, rcs, posN]
        · intro j hj
          have hpl : (headB r).length ≤ 33 := by simp [headB_len, pos_len]
          have hpn := posN_le r.fr j
          obtain rfl | rfl | rfl | rfl | rfl : j = 0 ∨ j = 1 ∨ j = 2 ∨ j = 3 ∨ j = 4 := by omega
          · simp [go_sem, qcs, rcs, posN]
            refine ACall_eq (he.int hi ci rfl hfr.1 (by simp [headB_len, pos_len, be_len])) ?_
            simp (disch := omega) [go_sem, wrap64_small]
            refine ⟨1, by omega, by omega, ?_⟩
            simp [go_sem, qcs, rcs, posN, pos]
          · simp [go_sem, qcs, rcs, posN]
            refine ACall_eq (he.int hi ci rfl hfr.2.1 (by simp [headB_len, pos_len, be_len])) ?_
            simp (disch := omega) [go_sem, wrap64_small]
            refine ⟨2, by omega, by omega, ?_⟩
            simp [go_sem, qcs, rcs, posN, pos]
          · simp [go_sem, qcs, rcs, posN]
            refine ACall_eq (he.int hi ci rfl hfr.2.2.1 (by simp [headB_len, pos_len, be_len])) ?_
            simp (disch := omega) [go_sem, wrap64_small]
            refine ⟨3, by omega, by omega, ?_⟩
            simp [go_sem, qcs, rcs, posN, pos]
          · simp [go_sem, qcs, rcs, posN]
            refine ACall_eq (he.int hi ci rfl hfr.2.2.2 (by simp [headB_len, pos_len, be_len])) ?_
            simp (disch := omega) [go_sem, wrap64_small]
            refine ⟨4, by omega, by omega, ?_⟩
            simp [go_sem, qcs, rcs, posN, pos]
          · simp (disch := omega) [go_sem, wrap64_small, rcs]
            refine ⟨1, by omega, by omega, ?_⟩
            simp [go_sem, qcs, rcs, posN]
      · simp [go_sem, qcs, rcs]
        refine AS_loop (α := Nat) (fun j => j ≤ 4)
          (fun j => ⟨[(1, .p 0 1 0 0), (4, .p 1 1 0 0), (34, .a (r.fr.cs ++ r.to.cs)), (35, .i .i64 1), (38, .a r.to.cs), (39, .i .i64 j)], [.arr 1 12 [r.cs], .arr 1 1 [[.s (headB r ++ pos r.fr ++ posN r.to j)]]]⟩) (fun j => 4 - j) 0 (by simp) ?_ ?_
        · simp [go_sem, qcs, rcs, posN]
        · intro j hj
          have hpl : (headB r ++ pos r.fr).length ≤ 33 := by simp [headB_len, pos_len]
          have hpn := posN_le r.to j
          obtain rfl | rfl | rfl | rfl | rfl : j = 0 ∨ j = 1 ∨ j = 2 ∨ j = 3 ∨ j = 4 := by omega
          · simp [go_sem, qcs, rcs, posN]
            refine ACall_eq (he.int hi ci rfl hto.1 (by simp [headB_len, pos_len, be_len])) ?_
            simp (disch := omega) [go_sem, wrap64_small]
            refine ⟨1, by omega, by omega, ?_⟩
            simp [go_sem, qcs, rcs, posN, pos]
          · simp [go_sem, qcs, rcs, posN]
            refine ACall_eq (he.int hi ci rfl hto.2.1 (by simp [headB_len, pos_len, be_len])) ?_
            simp (disch := omega) [go_sem, wrap64_small]
            refine ⟨2, by omega, by omega, ?_⟩
            simp [go_sem, qcs, rcs, posN, pos]
          · simp [go_sem, qcs, rcs, posN]
            refine ACall_eq (he.int hi ci rfl hto.2.2.1 (by simp [headB_len, pos_len, be_len])) ?_
            simp (disch := omega) [go_sem, wrap64_small]
            refine ⟨3, by omega, by omega, ?_⟩
            simp [go_sem, qcs, rcs, posN, pos]
          · simp [go_sem, qcs, rcs, posN]
            refine ACall_eq (he.int hi ci rfl hto.2.2.2 (by simp [headB_len, pos_len, be_len])) ?_
            simp (disch := omega) [go_sem, wrap64_small]
            refine ⟨4, by omega, by omega, ?_⟩
            simp [go_sem, qcs, rcs, posN, pos]
          · simp (disch := omega) [go_sem, wrap64_small, rcs]
            refine ⟨2, by omega, by omega, ?_⟩
            simp [go_sem, qcs, rcs, posN]
      · simp [go_sem, rcs]
        have hbd : headB r ++ (pos r.fr ++ pos r.to) = bodyB r := by simp [bodyB]
        rw [hbd]
        have hcl := crc_lt (bodyB r)
        refine ACall_is (hc (bodyB r) (by rw [bodyB_len]; omega)) ?_
        simp [go_sem]
        refine ACall_eq (he.uint hu cu 2 rfl (by simp [Wd]) (by omega) (by omega) (by simp [bodyB_len])) ?_
        simp [go_sem]
        refine ACall_is (hd _ 58 (by simp [bodyB_len, be_len]) (by omega)) ?_
        rw [padV_ok (by simp [bodyB_len, be_len])]
        simp [go_sem, bodyB_len, be_len]
        refine ACall_eq (he.uint hu cu 6 rfl (by simp [Wd]) (by omega) (by omega) (by simp [bodyB_len, be_len])) ?_
        simp [go_sem, journal_Encode.r, encV, hg, recB]
  · simp [go_sem, Rec.valid, hg, journal_Encode.r, encV]

end
end Go.Abs

