/- The reference's words as bytes, and the two checksums of 16 bits. -/
import Derived.Test.YtedcbjgnidjidaaGoJrA
set_option linter.unusedVariables false
set_option linter.unusedSimpArgs false
namespace Go.Abs

def crcBit (r : Nat) : Nat := if 32768 ≤ r then ((r - 32768) * 2) ^^^ 4129 else r * 2
def crcN : Nat → Nat → Nat
  | 0, x => x
  | k + 1, x => crcBit (crcN k x)
def crcByte (r : Nat) (b : UInt8) : Nat := crcN 8 (r ^^^ (b.toNat * 256))
def crc (s : List UInt8) : Nat := s.foldl crcByte 65535

theorem xor_lt16 {a b : Nat} (ha : a < 65536) (hb : b < 65536) : a ^^^ b < 65536 := Nat.xor_lt_two_pow (n := 16) ha hb
theorem crcBit_lt {r : Nat} (h : r < 65536) : crcBit r < 65536 := by
  unfold crcBit; split
  · exact xor_lt16 (by omega) (by omega)
  · omega
theorem crcN_lt {x : Nat} (h : x < 65536) : ∀ k, crcN k x < 65536
  | 0 => h
  | k + 1 => crcBit_lt (crcN_lt h k)
theorem crcByte_lt {r : Nat} (h : r < 65536) (b : UInt8) : crcByte r b < 65536 := crcN_lt (xor_lt16 h (by have := b.toNat_lt; omega)) 8
theorem crc_foldl_lt (s : List UInt8) : ∀ {r : Nat}, r < 65536 → s.foldl crcByte r < 65536 := by
  induction s with
  | nil => intro r h; exact h
  | cons b s ih => intro r h; rw [List.foldl_cons]; exact ih (crcByte_lt h b)
theorem crc_lt (s : List UInt8) : crc s < 65536 := crc_foldl_lt s (by omega)
theorem crc_take {s : List UInt8} {k : Nat} {b : UInt8} (h : s[k]? = some b) : crc (s.take (k + 1)) = crcByte (crc (s.take k)) b := by
  simp [crc, List.take_add_one, h]

theorem bv_xor {n a b : Nat} (ha : a < 2 ^ n) (hb : b < 2 ^ n) : (BitVec.ofInt n (a : Int) ^^^ BitVec.ofInt n (b : Int)).toNat = a ^^^ b := by
  rw [BitVec.toNat_xor, BitVec.ofInt_natCast, BitVec.ofInt_natCast, BitVec.toNat_ofNat, BitVec.toNat_ofNat, Nat.mod_eq_of_lt ha, Nat.mod_eq_of_lt hb]
theorem bv_and {n a b : Nat} (ha : a < 2 ^ n) (hb : b < 2 ^ n) : (BitVec.ofInt n (a : Int) &&& BitVec.ofInt n (b : Int)).toNat = a &&& b := by
  rw [BitVec.toNat_and, BitVec.ofInt_natCast, BitVec.ofInt_natCast, BitVec.toNat_ofNat, BitVec.toNat_ofNat, Nat.mod_eq_of_lt ha, Nat.mod_eq_of_lt hb]
theorem xor16 {a b : Nat} (ha : a < 65536) (hb : b < 65536) : arith .xor .u16 (a : Int) (b : Int) = some (.i .u16 ((a ^^^ b : Nat) : Int)) := by
  rw [arith_xor]
  have : IntKind.u16.bits = 16 := rfl
  rw [this, bv_xor (n := 16) ha hb, wrap_u16_small (by omega) (by have := xor_lt16 ha hb; omega)]
theorem xor64 {a b : Nat} (ha : a < 65536) (hb : b < 65536) : arith .xor .i64 (a : Int) (b : Int) = some (.i .i64 ((a ^^^ b : Nat) : Int)) := by
  rw [arith_xor]
  have : IntKind.i64.bits = 64 := rfl
  rw [this, bv_xor (n := 64) (by omega) (by omega)]
  have := xor_lt16 ha hb
  rw [wrap64_small (by omega) (by omega)]
theorem and15 {a : Nat} (ha : a < 65536) : arith .and .u16 (a : Int) 32768 = some (.i .u16 (if 32768 ≤ a then 32768 else 0)) := by
  rw [arith_and]
  have : IntKind.u16.bits = 16 := rfl
  rw [this, show (32768 : Int) = ((32768 : Nat) : Int) from rfl, bv_and (n := 16) ha (by omega)]
  have h1 : a &&& 32768 = (a.testBit 15).toNat * 32768 := by
    apply Nat.eq_of_testBit_eq
    intro i
    rw [Nat.testBit_and, show (32768 : Nat) = 2 ^ 15 from rfl, Nat.testBit_two_pow]
    by_cases hi : 15 = i
    · subst hi
      cases a.testBit 15
      · simp
      · decide
    · simp only [hi, decide_false, Bool.and_false]
      cases a.testBit 15
      · simp
      · rw [Bool.toNat_true, Nat.one_mul, Nat.testBit_two_pow]; simp [hi]
  rw [h1, Nat.testBit_eq_decide_div_mod_eq]
  by_cases h : 32768 ≤ a
  · rw [show a / 2 ^ 15 % 2 = 1 by omega, if_pos h]; rfl
  · rw [show a / 2 ^ 15 % 2 = 0 by omega, if_neg h]; rfl

def CrcC (P : Program) (f : FuncId) : Prop := ∀ s : List UInt8, s.length ≤ 1000000 → CallIs P f [.s s] (.i .i64 (crc s))
def BitC (P : Program) (f : FuncId) : Prop := ∀ r : Nat, r < 65536 → CallIs P f [.i .i64 r] (.i .i64 (crcBit r))

section
variable {P : Program} (hm : P.follows .mixedOrders = true)
include hm

theorem ref02_Uint_ok {f fv fp : FuncId} (hf : FnOk P f (ref02_Uint.c fv fp) ref02_Uint.r ref02_Uint.n) (hv : ValidWC P fv) (hp : BytesC P fp) : UintC P f := by
  intro n w hw hn
  have hw8 : 1 ≤ w ∧ w ≤ 8 := by unfold Wd at hw; omega
  refine PureC.is (pure_of hm hf (Nat.le_of_ble_eq_true rfl) ?_) rfl
  unfold ref02_Uint.c
  simp [go_sem]
  refine ACall_is (hv w hw8.1 hw8.2) ?_
  by_cases h0 : n < 0
  · simp [go_sem, h0, ref02_Uint.r, uintV]
  · obtain ⟨m, rfl⟩ : ∃ m : Nat, n = m := ⟨n.toNat, by omega⟩
    have hm' : IntKind.u64.wrap (m : Int) = m := wrap_u64_small (by omega) (by omega)
    have hp' := hp m w (by omega) hw8.2
    rcases hw with rfl | rfl | rfl | rfl
    all_goals
      simp (disch := omega) [go_sem, hm', h0, wrap64_small, wrap_u64_small]
      refine ⟨fun h1 => ?_, fun h1 => ?_⟩
      · simp [go_sem, ref02_Uint.r, uintV]; omega
      · refine ACall_is hp' ?_
        simp [go_sem, ref02_Uint.r, uintV]; omega

theorem ref02_Int_ok {f fv fp : FuncId} (hf : FnOk P f (ref02_Int.c fv fp) ref02_Int.r ref02_Int.n) (hv : ValidWC P fv) (hp : BytesC P fp) : IntC P f := by
  intro n
  refine PureC.is (pure_of hm hf (Nat.le_of_ble_eq_true rfl) ?_) rfl
  unfold ref02_Int.c
  simp [go_sem]
  refine ACall_is (hv 4 (by omega) (by omega)) ?_
  by_cases h0 : n < -2147483648
  · simp (disch := omega) [go_sem, wrap64_small, wrap_u64_small, h0, ref02_Int.r, intV]
  · by_cases h1 : 2147483648 ≤ n
    · simp (disch := omega) [go_sem, wrap64_small, wrap_u64_small, h0, h1, ref02_Int.r, intV]
    · have h2 : intV n = .t [.s (be 4 (u64 n)), .i .i64 0] := by
        unfold intV; rw [if_neg (by omega)]
      rw [h2]
      simp (disch := omega) [go_sem, wrap64_small, wrap_u64_small, h0, h1]
      rw [wrap_u64]
      refine ACall_is (hp (u64 n) 4 (u64_lt n) (by omega)) ?_
      simp [go_sem, ref02_Int.r]

theorem ref02_Pad_ok {f : FuncId} (hf : FnOk P f ref02_Pad.c ref02_Pad.r ref02_Pad.n) : PadC P f := by
  intro s n hs hn
  refine PureC.is (pure_of hm hf (Nat.le_of_ble_eq_true rfl) ?_) rfl
  unfold ref02_Pad.c
  by_cases h : n < s.length
  · simp [go_sem, padV, h, show ¬ (n : Int) < 0 by omega, show ¬ (65536 : Int) < n by omega, show (n : Int) < s.length by omega, ref02_Pad.r]
  · have e : IntKind.i64.wrap ((n : Int) - s.length) = ((n - s.length : Nat) : Int) := by rw [wrap64_small (by omega) (by omega)]; omega
    generalize hd : n - s.length = d at e
    simp [go_sem, padV, h, show ¬ (n : Int) < 0 by omega, show ¬ (65536 : Int) < n by omega, show ¬ (n : Int) < s.length by omega, show s.length ≤ 9223372036854775807 by omega, e, ref02_Pad.r, hd, show (d : Int) ≤ 140737488355328 by omega, show (d : Int) ≤ 9223372036854775807 by omega, show s.length + d ≤ 9223372036854775807 by omega]

theorem ref03_bit_ok {f : FuncId} (hf : FnOk P f ref03_bit.c ref03_bit.r ref03_bit.n) : BitC P f := by
  intro r hr
  refine PureC.is (pure_of hm hf (Nat.le_of_ble_eq_true rfl) ?_) rfl
  unfold ref03_bit.c
  by_cases h : 32768 ≤ r
  · have e := xor64 (a := (r - 32768) * 2) (b := 4129) (by omega) (by omega)
    have e2 : (((r - 32768) * 2 : Nat) : Int) = ((r : Int) - 32768) * 2 := by omega
    rw [e2] at e
    have e' : arith .xor .i64 (((r : Int) - 32768) * 2) 4129 = some (.i .i64 ((((r - 32768) * 2) ^^^ 4129 : Nat) : Int)) := e
    simp (disch := omega) [go_sem, wrap64_small, show (32768 : Int) ≤ r by omega, e', ref03_bit.r, crcBit, h]
  · simp (disch := omega) [go_sem, wrap64_small, show ¬ (32768 : Int) ≤ r by omega, ref03_bit.r, crcBit, h]

theorem ref03_CRC16_ok {f fb : FuncId} (hf : FnOk P f (ref03_CRC16.c fb) ref03_CRC16.r ref03_CRC16.n) (hb : BitC P fb) : CrcC P f := by
  intro s hs
  refine PureC.is (pure_of hm hf (Nat.le_of_ble_eq_true rfl) ?_) rfl
  unfold ref03_CRC16.c
  simp [go_sem]
  refine AS_loop (α := Nat) (fun k => k ≤ s.length) (fun k => ⟨[(0, .s s), (3, .i .i64 (crc (s.take k))), (4, .i .i64 k)], []⟩) (fun k => s.length - k) 0 (Nat.zero_le _) ?_ ?_
  · simp [go_sem, crc]
  · intro k hk
    have hc := crc_lt (s.take k)
    cases hp : s[k]? with
    | none =>
      have : ¬ k < s.length := by simpa using hp
      obtain rfl : k = s.length := by omega
      rw [List.take_length]
      simp [go_sem, ref03_CRC16.r]
    | some b =>
      obtain ⟨hlt, hp'⟩ := List.getElem?_eq_some_iff.1 hp
      have hb8 := b.toNat_lt
      have e := xor64 (a := crc (s.take k)) (b := b.toNat * 256) hc (by omega)
      have e2 : ((b.toNat * 256 : Nat) : Int) = (b.toNat : Int) * 256 := by omega
      rw [e2] at e
      have hx := xor_lt16 hc (show b.toNat * 256 < 65536 by omega)
      have hs1 : crc (s.take (k + 1)) = crcN 8 (crc (s.take k) ^^^ (b.toNat * 256)) := crc_take hp
      generalize crc (s.take k) = r at *
      generalize r ^^^ (b.toNat * 256) = x at *
      simp (disch := omega) [go_sem, hlt, hp', wrap64_small, e]
      refine AS_loop (α := Nat) (fun j => j ≤ 8) (fun j => ⟨[(0, .s s), (3, .i .i64 (crcN j x)), (4, .i .i64 k), (5, .i .i64 j)], []⟩) (fun j => 8 - j) 0 (Nat.zero_le _) ?_ ?_
      · simp [go_sem, crcN]
      · intro j hj
        by_cases hj8 : j < 8
        · simp [go_sem, show (j : Int) < 8 by omega]
          refine ACall_is (hb _ (crcN_lt hx j)) ?_
          simp (disch := omega) [go_sem, wrap64_small]
          refine ⟨j + 1, by omega, by omega, ?_⟩
          simp [go_sem, crcN]
        · obtain rfl : j = 8 := by omega
          simp (disch := omega) [go_sem, wrap64_small]
          refine ⟨k + 1, by omega, by omega, ?_⟩
          simp [go_sem, hs1]

theorem sum_CRC16_ok {f : FuncId} (hf : FnOk P f sum_CRC16.c sum_CRC16.r sum_CRC16.n) : CrcC P f := by
  intro s hs
  refine PureC.is (pure_of hm hf (Nat.le_of_ble_eq_true rfl) ?_) rfl
  unfold sum_CRC16.c
  simp [go_sem]
  refine AS_loop (α := Nat) (fun k => k ≤ s.length) (fun k => ⟨[(0, .s s), (3, .i .u16 (crc (s.take k))), (7, .i .i64 s.length), (8, .i .i64 k)], []⟩) (fun k => s.length - k) 0 (Nat.zero_le _) ?_ ?_
  · simp [go_sem, crc]
  · intro k hk
    have hc := crc_lt (s.take k)
    cases hp : s[k]? with
    | none =>
      have : ¬ k < s.length := by simpa using hp
      obtain rfl : k = s.length := by omega
      rw [List.take_length] at hc ⊢
      simp (disch := omega) [go_sem, sum_CRC16.r, wrap64_small]
    | some b =>
      obtain ⟨hlt, hp'⟩ := List.getElem?_eq_some_iff.1 hp
      have hb8 := b.toNat_lt
      have e := xor16 (a := crc (s.take k)) (b := b.toNat * 256) hc (by omega)
      have e2 : ((b.toNat * 256 : Nat) : Int) = (b.toNat : Int) * 256 := by omega
      rw [e2] at e
      have hx := xor_lt16 hc (show b.toNat * 256 < 65536 by omega)
      have hs1 : crc (s.take (k + 1)) = crcN 8 (crc (s.take k) ^^^ (b.toNat * 256)) := crc_take hp
      generalize crc (s.take k) = r at *
      generalize r ^^^ (b.toNat * 256) = x at *
      simp (disch := omega) [go_sem, hlt, hp', wrap_u16_small, e]
      refine AS_loop (α := Nat) (fun j => j ≤ 8) (fun j => ⟨[(0, .s s), (3, .i .u16 (crcN j x)), (7, .i .i64 s.length), (8, .i .i64 k), (18, .i .i64 j)], []⟩) (fun j => 8 - j) 0 (Nat.zero_le _) ?_ ?_
      · simp [go_sem, crcN]
      · intro j hj
        by_cases hj8 : j < 8
        · have hy := crcN_lt hx j
          have hs2 : crcN (j + 1) x = crcBit (crcN j x) := rfl
          generalize crcN j x = y at *
          have ea := and15 hy
          by_cases h : 32768 ≤ y
          · have e3 := xor16 (a := (y - 32768) * 2) (b := 4129) (by omega) (by omega)
            have e5 : IntKind.u16.wrap ((y : Int) * 2) = (((y - 32768) * 2 : Nat) : Int) := by
              simp only [IntKind.wrap, IntKind.bits, IntKind.signed]
              simp
              omega
            generalize hz : (y - 32768) * 2 = z at *
            have e6 : arith .xor .u16 (z : Int) 4129 = some (.i .u16 ((z ^^^ 4129 : Nat) : Int)) := e3
            simp [go_sem, show (j : Int) < 8 by omega, ea, h, e5, e6]
            simp (disch := omega) [go_sem, wrap64_small]
            refine ⟨j + 1, by omega, by omega, ?_⟩
            simp [go_sem, hs2, crcBit, h, hz]
          · simp (disch := omega) [go_sem, show (j : Int) < 8 by omega, ea, h, wrap_u16_small]
            simp (disch := omega) [go_sem, wrap64_small]
            refine ⟨j + 1, by omega, by omega, ?_⟩
            simp [go_sem, hs2, crcBit, h]
        · obtain rfl : j = 8 := by omega
          simp (disch := omega) [go_sem, wrap64_small]
          refine ⟨k + 1, by omega, by omega, ?_⟩
          simp [go_sem, hs1]
end
end Go.Abs

