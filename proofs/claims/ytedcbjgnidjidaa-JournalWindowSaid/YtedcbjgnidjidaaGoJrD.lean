/- Records read from bytes, by values. -/
import Derived.Test.YtedcbjgnidjidaaGoJrC
set_option linter.unusedVariables false
set_option linter.unusedSimpArgs false
namespace Go.Abs

def natOf (l : List UInt8) : Nat := l.foldl (fun u b => u * 256 + b.toNat) 0
theorem natOf_snoc (l : List UInt8) (b : UInt8) : natOf (l ++ [b]) = natOf l * 256 + b.toNat := by simp [natOf]
theorem natOf_lt (l : List UInt8) : natOf l < 256 ^ l.length := by
  induction hn : l.length generalizing l with
  | zero => obtain rfl := List.eq_nil_of_length_eq_zero hn; simp [natOf]
  | succ n ih =>
    obtain ⟨l', b, rfl⟩ : ∃ l' b, l = l' ++ [b] := ⟨l.dropLast, l.getLast (by intro h; simp [h] at hn), (List.dropLast_concat_getLast _).symm⟩
    rw [natOf_snoc, Nat.pow_succ]
    have := ih l' (by simp at hn; omega)
    have := b.toNat_lt
    omega
/-- The number at a place. -/
def field (s : List UInt8) (at_ w : Nat) : Nat := natOf ((s.drop at_).take w)
theorem field_succ {s : List UInt8} {a k : Nat} {b : UInt8} (h : s[a + k]? = some b) : field s a (k + 1) = field s a k * 256 + b.toNat := by
  unfold field
  rw [List.take_add_one, List.getElem?_drop, h]
  exact natOf_snoc _ b
theorem field_lt (s : List UInt8) (a w : Nat) : field s a w < 256 ^ w := by
  refine Nat.lt_of_lt_of_le (natOf_lt _) (Nat.pow_le_pow_right (by omega) (by simp; omega))
def sgn (x : Nat) : Int := if 2147483648 ≤ x then (x : Int) - 4294967296 else x
def four (s : List UInt8) (a : Nat) : Q4 := ⟨sgn (field s a 4), sgn (field s (a + 4) 4), sgn (field s (a + 8) 4), sgn (field s (a + 12) 4)⟩
def recOf (s : List UInt8) : Rec := ⟨field s 6 1, field s 0 6, field s 7 6, field s 13 4, four s 17, four s 33⟩
def zRec : Rec := ⟨0, 0, 0, 0, ⟨0, 0, 0, 0⟩, ⟨0, 0, 0, 0⟩⟩
def decR (s : List UInt8) : Rec × Int := if s.length < 64 then (zRec, 6) else if (recOf s).good ∧ recB (recOf s) = s then (recOf s, 0) else (zRec, 19)
def decV (s : List UInt8) : V := .t [(decR s).1.enc, .i .i64 (decR s).2]

theorem or_byte {a b : Nat} (ha : a < 72057594037927936) (hb : b < 256) : arith .or .u64 ((a * 256 : Nat) : Int) (b : Int) = some (.i .u64 ((a * 256 + b : Nat) : Int)) := by
  rw [arith_or]
  have : IntKind.u64.bits = 64 := rfl
  rw [this, BitVec.toNat_or, BitVec.ofInt_natCast, BitVec.ofInt_natCast, BitVec.toNat_ofNat, BitVec.toNat_ofNat, Nat.mod_eq_of_lt (by omega), Nat.mod_eq_of_lt (by omega)]
  have h := Nat.two_pow_add_eq_or_of_lt (i := 8) (b := b) (by omega) a
  rw [show a * 256 = 2 ^ 8 * a by omega, ← h, wrap_u64_small (by omega) (by omega)]

def TakeC (P : Program) (f : FuncId) : Prop := ∀ (s : List UInt8) (a w : Nat), Wd w → a + w ≤ s.length → s.length ≤ 1000000 → CallIs P f [.s s, .i .i64 a, .i .i64 w] (.t [.i .u64 (field s a w), .i .i64 0])
def TakenC (P : Program) (f : FuncId) : Prop := ∀ (s : List UInt8) (a w : Nat), Wd w → a + w ≤ s.length → s.length ≤ 1000000 → CallIs P f [.s s, .i .i64 a, .i .i64 w] (.t [.s ((s.drop a).take w), .i .i64 0])
def NumC (P : Program) (f : FuncId) : Prop := ∀ s : List UInt8, s.length ≤ 8 → CallIs P f [.s s] (.i .u64 (natOf s))
def TakeUC (P : Program) (f : FuncId) : Prop := ∀ (s : List UInt8) (a w : Nat), Wd w → a + w ≤ s.length → s.length ≤ 1000000 → CallIs P f [.s s, .i .i64 a, .i .i64 w] (.t [.i .i64 (field s a w), .i .i64 ((a + w : Nat) : Int), .i .i64 0])
def TakeIC (P : Program) (f : FuncId) : Prop := ∀ (s : List UInt8) (a : Nat), a + 4 ≤ s.length → s.length ≤ 1000000 → CallIs P f [.s s, .i .i64 a, .i .i64 4] (.t [.i .i64 (sgn (field s a 4)), .i .i64 ((a + 4 : Nat) : Int), .i .i64 0])
def NumberC (P : Program) (f : FuncId) : Prop := ∀ (s : List UInt8) (a w : Nat), Wd w → a + w ≤ s.length → s.length ≤ 1000000 → CallIs P f [.s s, .i .i64 a, .i .i64 w] (.i .i64 (field s a w))
def FourC (P : Program) (f : FuncId) : Prop := ∀ (s : List UInt8) (a : Nat), a + 16 ≤ s.length → s.length ≤ 1000000 → CallIs P f [.s s, .i .i64 a] (four s a).enc
def NextC (P : Program) (f : FuncId) : Prop := ∀ (h : List O) (id : Nat) (s : List UInt8) (a w v a' : Int) (ft : FuncId), h[id]? = some (.arr 1 4 [[.s s, .i .i64 a, .i .i64 w, .f ft []]]) → callable P ft = true →
  CallIs P ft [.s s, .i .i64 a, .i .i64 w] (.t [.i .i64 v, .i .i64 a', .i .i64 0]) →
  ACall P f [.p id 1 0 0] h (fun r h' => r = .i .i64 v ∧ h' = h.set id (.arr 1 4 [[.s s, .i .i64 a', .i .i64 w, .f ft []]]))
def DecC (P : Program) (f : FuncId) : Prop := ∀ s : List UInt8, s.length ≤ 1000000 → CallIs P f [.s s] (decV s)

section
variable {P : Program} (hm : P.follows .mixedOrders = true)
include hm

theorem wire_take_ok {f fv : FuncId} (hf : FnOk P f (wire_take.c fv) wire_take.r wire_take.n) (hv : ValidWC P fv) : TakeC P f := by
  intro s a w hw hl hs
  have hw8 : 1 ≤ w ∧ w ≤ 6 := by unfold Wd at hw; omega
  refine PureC.is (pure_of hm hf (Nat.le_of_ble_eq_true rfl) ?_) rfl
  unfold wire_take.c
  simp [go_sem, show ¬ (a : Int) < 0 by omega, show ¬ (s.length : Int) < a by omega, show ¬ s.length < a by omega]
  refine ACall_is (hv w hw8.1 (by omega)) ?_
  simp (disch := omega) [go_sem, wrap64_small]
  refine ⟨fun h => ?_, fun h => ?_⟩
  · exfalso; omega
  refine AS_loop (α := Nat) (fun k => k ≤ w) (fun k => ⟨[(0, .s s), (1, .i .i64 a), (8, .i .u64 (field s a k)), (31, .i .i64 w), (32, .i .i64 k)], []⟩) (fun k => w - k) 0 (Nat.zero_le _) ?_ ?_
  · simp [go_sem, field, natOf]
  · intro k hk
    by_cases hkw : k < w
    · obtain ⟨b, hb⟩ : ∃ b, s[a + k]? = some b := ⟨_, List.getElem?_eq_getElem (by omega)⟩
      obtain ⟨hlt, hb'⟩ := List.getElem?_eq_some_iff.1 hb
      have hfl : field s a k < 1099511627776 := Nat.lt_of_lt_of_le (field_lt s a k) (by
        have : (256 : Nat) ^ k ≤ 256 ^ 5 := Nat.pow_le_pow_right (by omega) (by omega)
        simpa using this)
      have hsu := field_succ hb
      have hbl := b.toNat_lt
      generalize field s a k = x at *
      have e := or_byte (a := x) (b := b.toNat) (by omega) hbl
      have e1 : IntKind.u64.wrap ((x : Int) * 256) = ((x * 256 : Nat) : Int) := by rw [wrap_u64_small (by omega) (by omega)]; omega
      have e2 : IntKind.i64.wrap ((a : Int) + k) = ((a + k : Nat) : Int) := by rw [wrap64_small (by omega) (by omega)]; omega
      have e3 : IntKind.u64.wrap (b.toNat : Int) = b.toNat := wrap_u64_small (by omega) (by omega)
      generalize hy : x * 256 = y at *
      generalize hc : a + k = c at *
      simp [go_sem, hkw, e, e1, e2, e3, hlt, hb']
      simp (disch := omega) [go_sem, wrap64_small]
      refine ⟨k + 1, by omega, by omega, ?_⟩
      simp [go_sem, hsu]
    · obtain rfl : k = w := by omega
      simp [go_sem, wire_take.r]

theorem wire_TakeUint_ok {f ft : FuncId} (hf : FnOk P f (wire_TakeUint.c ft) wire_TakeUint.r wire_TakeUint.n) (ht : TakeC P ft) : TakeUC P f := by
  intro s a w hw hl hs
  refine PureC.is (pure_of hm hf (Nat.le_of_ble_eq_true rfl) ?_) rfl
  unfold wire_TakeUint.c
  simp [go_sem]
  refine ACall_is (ht s a w hw hl hs) ?_
  have hx : field s a w < 281474976710656 := Nat.lt_of_lt_of_le (field_lt s a w) (by rcases hw with rfl | rfl | rfl | rfl <;> simp)
  have hw6 : w ≤ 6 := by unfold Wd at hw; omega
  generalize field s a w = x at *
  simp (disch := omega) [go_sem, show ¬ (9223372036854775808 : Int) ≤ x by omega, wrap64_small, wire_TakeUint.r]

theorem wire_TakeInt_ok {f ft : FuncId} (hf : FnOk P f (wire_TakeInt.c ft) wire_TakeInt.r wire_TakeInt.n) (ht : TakeC P ft) : TakeIC P f := by
  intro s a hl hs
  refine PureC.is (pure_of hm hf (Nat.le_of_ble_eq_true rfl) ?_) rfl
  unfold wire_TakeInt.c
  simp [go_sem]
  refine ACall_is (ht s a 4 (by simp [Wd]) hl hs) ?_
  have hx : field s a 4 < 4294967296 := Nat.lt_of_lt_of_le (field_lt s a 4) (by simp)
  generalize field s a 4 = x at *
  have e1 : IntKind.i64.wrap ((x : Int) * 4294967296) = sgn x * 4294967296 := by
    simp only [IntKind.wrap, IntKind.bits, IntKind.signed, sgn]
    simp
    omega
  have e2 : (sgn x * 4294967296).fdiv 4294967296 = sgn x := Int.mul_fdiv_cancel _ (by omega)
  simp (disch := omega) [go_sem, wrap64_small, wrap_u64_small, wire_TakeInt.r, e1, e2]

theorem ref02_number_ok {f : FuncId} (hf : FnOk P f ref02_number.c ref02_number.r ref02_number.n) : NumC P f := by
  intro s hs
  refine PureC.is (pure_of hm hf (Nat.le_of_ble_eq_true rfl) ?_) rfl
  unfold ref02_number.c
  simp [go_sem]
  refine AS_loop (α := Nat) (fun k => k ≤ s.length) (fun k => ⟨[(0, .s s), (3, .i .u64 (natOf (s.take k))), (4, .i .i64 k)], []⟩) (fun k => s.length - k) 0 (Nat.zero_le _) ?_ ?_
  · simp [go_sem, natOf]
  · intro k hk
    cases hp : s[k]? with
    | none =>
      have : ¬ k < s.length := by simpa using hp
      obtain rfl : k = s.length := by omega
      rw [List.take_length]
      simp [go_sem, ref02_number.r]
    | some b =>
      obtain ⟨hlt, hp'⟩ := List.getElem?_eq_some_iff.1 hp
      have hbl := b.toNat_lt
      have hsu : natOf (s.take (k + 1)) = natOf (s.take k) * 256 + b.toNat := by rw [List.take_add_one, hp]; exact natOf_snoc _ b
      have hxl : natOf (s.take k) < 72057594037927936 := Nat.lt_of_lt_of_le (natOf_lt _) (by
        have : (256 : Nat) ^ (s.take k).length ≤ 256 ^ 7 := Nat.pow_le_pow_right (by omega) (by simp; omega)
        simpa using this)
      generalize natOf (s.take k) = x at *
      have e3 : IntKind.u64.wrap (b.toNat : Int) = b.toNat := wrap_u64_small (by omega) (by omega)
      simp [go_sem, hlt, hp', e3]
      simp (disch := omega) [go_sem, wrap64_small, wrap_u64_small]
      refine ⟨k + 1, by omega, by omega, ?_⟩
      simp [go_sem, hsu]

theorem ref02_taken_ok {f fv : FuncId} (hf : FnOk P f (ref02_taken.c fv) ref02_taken.r ref02_taken.n) (hv : ValidWC P fv) : TakenC P f := by
  intro s a w hw hl hs
  have hw8 : 1 ≤ w ∧ w ≤ 6 := by unfold Wd at hw; omega
  refine PureC.is (pure_of hm hf (Nat.le_of_ble_eq_true rfl) ?_) rfl
  unfold ref02_taken.c
  simp [go_sem, show ¬ (a : Int) < 0 by omega, show ¬ (s.length : Int) < a by omega, show ¬ s.length < a by omega]
  refine ACall_is (hv w hw8.1 (by omega)) ?_
  simp (disch := omega) [go_sem, wrap64_small]
  refine ⟨fun h => ?_, fun h => ?_⟩
  · exfalso; omega
  have e1 : ((a : Int) + w).toNat = a + w := by omega
  simp [go_sem, e1, show (0 : Int) ≤ (a : Int) + w by omega, show a + w ≤ s.length by omega, ref02_taken.r]
  rw [List.drop_take]; congr 1; omega

theorem ref02_TakeUint_ok {f ft fn : FuncId} (hf : FnOk P f (ref02_TakeUint.c ft fn) ref02_TakeUint.r ref02_TakeUint.n) (ht : TakenC P ft) (hn : NumC P fn) : TakeUC P f := by
  intro s a w hw hl hs
  refine PureC.is (pure_of hm hf (Nat.le_of_ble_eq_true rfl) ?_) rfl
  unfold ref02_TakeUint.c
  have hw6 : w ≤ 6 := by unfold Wd at hw; omega
  simp [go_sem]
  refine ACall_is (ht s a w hw hl hs) ?_
  simp [go_sem]
  refine ACall_is (hn ((s.drop a).take w) (by simp; omega)) ?_
  have hx : field s a w < 281474976710656 := Nat.lt_of_lt_of_le (field_lt s a w) (by rcases hw with rfl | rfl | rfl | rfl <;> simp)
  have hfd : natOf ((s.drop a).take w) = field s a w := rfl
  rw [hfd]
  generalize field s a w = x at *
  simp (disch := omega) [go_sem, show ¬ (9223372036854775808 : Int) ≤ x by omega, wrap64_small, ref02_TakeUint.r]

theorem ref02_TakeInt_ok {f ft fn : FuncId} (hf : FnOk P f (ref02_TakeInt.c ft fn) ref02_TakeInt.r ref02_TakeInt.n) (ht : TakenC P ft) (hn : NumC P fn) : TakeIC P f := by
  intro s a hl hs
  refine PureC.is (pure_of hm hf (Nat.le_of_ble_eq_true rfl) ?_) rfl
  unfold ref02_TakeInt.c
  simp [go_sem]
  refine ACall_is (ht s a 4 (by simp [Wd]) hl hs) ?_
  simp [go_sem]
  refine ACall_is (hn ((s.drop a).take 4) (by simp; omega)) ?_
  have hfd : natOf ((s.drop a).take 4) = field s a 4 := rfl
  rw [hfd]
  obtain ⟨b, t, hbt⟩ : ∃ b t, (s.drop a).take 4 = b :: t := by
    cases h : (s.drop a).take 4 with
    | nil => have := congrArg List.length h; simp at this; omega
    | cons b t => exact ⟨b, t, rfl⟩
  have htl : t.length = 3 := by have := congrArg List.length hbt; simp at this; omega
  have hx : field s a 4 < 4294967296 := Nat.lt_of_lt_of_le (field_lt s a 4) (by simp)
  have hsg : (128 ≤ b.toNat ↔ 2147483648 ≤ field s a 4) := by
    unfold field
    rw [hbt]
    match t, htl with
    | [c, d, e], _ =>
      have h1 := c.toNat_lt
      have h2 := d.toNat_lt
      have h3 := e.toNat_lt
      simp [natOf]
      omega
  rw [hbt]
  generalize field s a 4 = x at *
  by_cases h : 128 ≤ b.toNat
  · simp (disch := omega) [go_sem, wrap64_small, wrap_u64_small, ref02_TakeInt.r, show (128 : Int) ≤ b.toNat by omega, sgn, hsg.1 h]
  · simp (disch := omega) [go_sem, wrap64_small, wrap_u64_small, ref02_TakeInt.r, show ¬ (128 : Int) ≤ b.toNat by omega, sgn, show ¬ 2147483648 ≤ x by omega]

theorem ref52_number_ok {f ft : FuncId} (hf : FnOk P f (ref52_number.c ft) ref52_number.r ref52_number.n) (ht : TakeUC P ft) : NumberC P f := by
  intro s a w hw hl hs
  refine PureC.is (pure_of hm hf (Nat.le_of_ble_eq_true rfl) ?_) rfl
  unfold ref52_number.c
  simp [go_sem]
  refine ACall_is (ht s a w hw hl hs) ?_
  simp [go_sem, ref52_number.r]

theorem ref52_four_ok {f ft : FuncId} (hf : FnOk P f (ref52_four.c ft) ref52_four.r ref52_four.n) (ht : TakeIC P ft) : FourC P f := by
  intro s a hl hs
  refine PureC.is (pure_of hm hf (Nat.le_of_ble_eq_true rfl) ?_) rfl
  unfold ref52_four.c
  simp [go_sem]
  refine AS_loop (α := Nat) (fun j => j ≤ 4) (fun j => ⟨[(0, .s s), (1, .i .i64 a), (4, .p 0 1 0 0), (5, .p 1 1 0 0), (6, .i .i64 j)],
    [.arr 1 4 [[.i .i64 0, .i .i64 0, .i .i64 0, .i .i64 0]], .arr 1 4 [[.i .i64 (if 0 < j then (four s a).a else 0), .i .i64 (if 1 < j then (four s a).b else 0), .i .i64 (if 2 < j then (four s a).c else 0), .i .i64 (if 3 < j then (four s a).d else 0)]]]⟩) (fun j => 4 - j) 0 (by simp) ?_ ?_
  · simp [go_sem]
  · intro j hj
    obtain rfl | rfl | rfl | rfl | rfl : j = 0 ∨ j = 1 ∨ j = 2 ∨ j = 3 ∨ j = 4 := by omega
    · simp (disch := omega) [go_sem, wrap64_small]
      refine ACall_is (ht s a (by omega) hs) ?_
      simp [go_sem]
      simp (disch := omega) [go_sem, wrap64_small]
      refine ⟨1, by omega, by omega, ?_⟩
      simp [go_sem, four]
    · simp (disch := omega) [go_sem, wrap64_small]
      refine ACall_is (ht s (a + 4) (by omega) hs) ?_
      simp [go_sem]
      simp (disch := omega) [go_sem, wrap64_small]
      refine ⟨2, by omega, by omega, ?_⟩
      simp [go_sem, four]
    · simp (disch := omega) [go_sem, wrap64_small]
      refine ACall_is (ht s (a + 8) (by omega) hs) ?_
      simp [go_sem]
      simp (disch := omega) [go_sem, wrap64_small]
      refine ⟨3, by omega, by omega, ?_⟩
      simp [go_sem, four]
    · simp (disch := omega) [go_sem, wrap64_small]
      refine ACall_is (ht s (a + 12) (by omega) hs) ?_
      simp [go_sem]
      simp (disch := omega) [go_sem, wrap64_small]
      refine ⟨4, by omega, by omega, ?_⟩
      simp [go_sem, four]
    · simp [go_sem, ref52_four.r, Q4.enc, qcs]

theorem ref52_Decode_ok {f fn ff fe : FuncId} (hf : FnOk P f (ref52_Decode.c fn ff fe) ref52_Decode.r ref52_Decode.n) (hn : NumberC P fn) (hff : FourC P ff) (he : RecEncC P fe) : DecC P f := by
  intro s hs
  refine PureC.is (pure_of hm hf (Nat.le_of_ble_eq_true rfl) ?_) rfl
  unfold ref52_Decode.c
  by_cases hl : s.length < 64
  · simp [go_sem, show (s.length : Int) < 64 by omega, ref52_Decode.r, decV, decR, hl, zRec, Rec.enc, rcs]
  · simp [go_sem, show ¬ (s.length : Int) < 64 by omega]
    refine ACall_is (hn s 0 6 (by simp [Wd]) (by omega) hs) ?_
    simp [go_sem]
    refine ACall_is (hn s 6 1 (by simp [Wd]) (by omega) hs) ?_
    simp [go_sem]
    refine ACall_is (hn s 7 6 (by simp [Wd]) (by omega) hs) ?_
    simp [go_sem]
    refine ACall_is (hn s 13 4 (by simp [Wd]) (by omega) hs) ?_
    simp [go_sem]
    refine ACall_is (hff s 17 (by omega) hs) ?_
    simp [go_sem, Q4.enc, qcs]
    refine ACall_is (hff s 33 (by omega) hs) ?_
    simp [go_sem, Q4.enc, qcs]
    have hr : ∀ r : Rec, r = recOf s → ACall P fe [r.enc] = ACall P fe [(recOf s).enc] := fun r h => by rw [h]
    refine ACall_is (he (recOf s)) ?_
    by_cases hg : (recOf s).good
    · by_cases hb : recB (recOf s) = s
      · simp [go_sem, encV, hg, hb, ref52_Decode.r, decV, decR, hl, Rec.enc, rcs]
        simp [recOf]
      · simp [go_sem, encV, hg, hb, fun h : s = recB (recOf s) => hb h.symm, ref52_Decode.r, decV, decR, hl, Rec.enc, rcs, zRec]
        exact fun h => hb h.symm
    · simp [go_sem, encV, hg, ref52_Decode.r, decV, decR, hl, Rec.enc, rcs, zRec]

theorem journal_next_ok {f : FuncId} (hf : FnOk P f journal_reader_int_next.c journal_reader_int_next.r journal_reader_int_next.n) : NextC P f := by
  intro h id s a w v a' ft hid hcl hft
  refine call_keep hm hf (Nat.le_of_ble_eq_true rfl) ?_
  unfold journal_reader_int_next.c
  simp [go_sem, hid, hcl]
  refine ⟨hcl, ?_⟩
  rw [List.append_nil]
  refine DCall_is hft ?_
  simp [go_sem, hid, journal_reader_int_next.r]

omit hm in
/-- The cells of the record, of which the positions have been read up to n. -/
def dcs (s : List UInt8) (n : Nat) : List V := [.i .i64 (field s 6 1), .i .i64 (field s 0 6), .i .i64 (field s 7 6), .i .i64 (field s 13 4),
  .i .i64 (if 0 < n then (four s 17).a else 0), .i .i64 (if 1 < n then (four s 17).b else 0), .i .i64 (if 2 < n then (four s 17).c else 0), .i .i64 (if 3 < n then (four s 17).d else 0),
  .i .i64 (if 4 < n then (four s 33).a else 0), .i .i64 (if 5 < n then (four s 33).b else 0), .i .i64 (if 6 < n then (four s 33).c else 0), .i .i64 (if 7 < n then (four s 33).d else 0)]

set_option maxHeartbeats 8000000 in
theorem journal_Decode_ok {f ftu fx fti fe : FuncId} (hf : FnOk P f (journal_Decode.c ftu fx fti fe) journal_Decode.r journal_Decode.n) (htu : TakeUC P ftu) (hx : NextC P fx) (hti : TakeIC P fti) (he : RecEncC P fe)
    (cu : callable P ftu = true) (ci : callable P fti = true) : DecC P f := by
  intro s hs
  refine PureC.is (pure_of hm hf (Nat.le_of_ble_eq_true rfl) ?_) rfl
  unfold journal_Decode.c
  by_cases hl : s.length < 64
  · simp [go_sem, show (s.length : Int) < 64 by omega, journal_Decode.r, decV, decR, hl, zRec, Rec.enc, rcs]
  · simp [go_sem, show ¬ (s.length : Int) < 64 by omega]
    refine ACall_eq (hx _ 2 s 0 6 _ _ ftu rfl cu (htu s 0 6 (by simp [Wd]) (by omega) hs)) ?_
    simp [go_sem]
    refine ACall_eq (hx _ 2 s 6 1 _ _ ftu rfl cu (htu s 6 1 (by simp [Wd]) (by omega) hs)) ?_
    simp [go_sem]
    refine ACall_eq (hx _ 2 s 7 6 _ _ ftu rfl cu (htu s 7 6 (by simp [Wd]) (by omega) hs)) ?_
    simp [go_sem]
    refine ACall_eq (hx _ 2 s 13 4 _ _ ftu rfl cu (htu s 13 4 (by simp [Wd]) (by omega) hs)) ?_
    simp [go_sem]
    refine AS_loop (α := Nat) (fun i => i ≤ 2)
      (fun i => ⟨[(0, .s s), (2, .p 0 1 0 0), (4, .p 1 1 0 0), (6, .p 3 1 0 0), (49, .a [.p 1 1 0 4, .p 1 1 0 8]), (50, .i .i64 i)], [.arr 1 12 [zRec.cs], .arr 1 12 [dcs s (4 * i)], .dead, .arr 1 4 [[.s s, .i .i64 ((17 + 16 * i : Nat) : Int), .i .i64 4, .f fti []]]]⟩) (fun i => 2 - i) 0 (by simp) ?_ ?_
    · simp [go_sem, dcs, zRec, rcs]
    · intro i hi
      obtain rfl | rfl | rfl : i = 0 ∨ i = 1 ∨ i = 2 := by omega
      · simp [go_sem]
        refine AS_loop (α := Nat) (fun j => j ≤ 4)
          (fun j => ⟨[(0, .s s), (2, .p 0 1 0 0), (4, .p 1 1 0 0), (6, .p 3 1 0 0), (8, .p 1 1 0 4), (49, .a [.p 1 1 0 4, .p 1 1 0 8]), (50, .i .i64 0), (53, .i .i64 j)], [.arr 1 12 [zRec.cs], .arr 1 12 [dcs s (0 + j)], .dead, .arr 1 4 [[.s s, .i .i64 ((17 + 16 * 0 + 4 * j : Nat) : Int), .i .i64 4, .f fti []]]]⟩) (fun j => 4 - j) 0 (by simp) ?_ ?_
        · simp [go_sem, dcs, zRec, rcs]
        · intro j hj
          obtain rfl | rfl | rfl | rfl | rfl : j = 0 ∨ j = 1 ∨ j = 2 ∨ j = 3 ∨ j = 4 := by omega
          · simp [go_sem]
            refine DCall_set (id := 3) rfl (fun h2 h2o => hx h2 3 s 17 4 _ _ fti h2o ci (hti s 17 (by omega) hs)) (.inl (by simp)) rfl ?_
            simp [go_sem, dcs]
            simp (disch := omega) [go_sem, wrap64_small]
            refine ⟨1, by omega, by omega, ?_⟩
            simp [go_sem, dcs, zRec, rcs, four]
          · simp [go_sem]
            refine DCall_set (id := 3) rfl (fun h2 h2o => hx h2 3 s 21 4 _ _ fti h2o ci (hti s 21 (by omega) hs)) (.inl (by simp)) rfl ?_
            simp [go_sem, dcs]
            simp (disch := omega) [go_sem, wrap64_small]
            refine ⟨2, by omega, by omega, ?_⟩
            simp [go_sem, dcs, zRec, rcs, four]
          · simp [go_sem]
            refine DCall_set (id := 3) rfl (fun h2 h2o => hx h2 3 s 25 4 _ _ fti h2o ci (hti s 25 (by omega) hs)) (.inl (by simp)) rfl ?_
            simp [go_sem, dcs]
            simp (disch := omega) [go_sem, wrap64_small]
            refine ⟨3, by omega, by omega, ?_⟩
            simp [go_sem, dcs, zRec, rcs, four]
          · simp [go_sem]
            refine DCall_set (id := 3) rfl (fun h2 h2o => hx h2 3 s 29 4 _ _ fti h2o ci (hti s 29 (by omega) hs)) (.inl (by simp)) rfl ?_
            simp [go_sem, dcs]
            simp (disch := omega) [go_sem, wrap64_small]
            refine ⟨4, by omega, by omega, ?_⟩
            simp [go_sem, dcs, zRec, rcs, four]
          · simp (disch := omega) [go_sem, wrap64_small]
            refine ⟨1, by omega, by omega, ?_⟩
            simp [go_sem, dcs, zRec, rcs]
      · simp [go_sem]
        refine AS_loop (α := Nat) (fun j => j ≤ 4)
          (fun j => ⟨[(0, .s s), (2, .p 0 1 0 0), (4, .p 1 1 0 0), (6, .p 3 1 0 0), (8, .p 1 1 0 8), (49, .a [.p 1 1 0 4, .p 1 1 0 8]), (50, .i .i64 1), (53, .i .i64 j)], [.arr 1 12 [zRec.cs], .arr 1 12 [dcs s (4 + j)], .dead, .arr 1 4 [[.s s, .i .i64 ((17 + 16 * 1 + 4 * j : Nat) : Int), .i .i64 4, .f fti []]]]⟩) (fun j => 4 - j) 0 (by simp) ?_ ?_
        · simp [go_sem, dcs, zRec, rcs]
        · intro j hj
          obtain rfl | rfl | rfl | rfl | rfl : j = 0 ∨ j = 1 ∨ j = 2 ∨ j = 3 ∨ j = 4 := by omega
          · simp [go_sem]
            refine DCall_set (id := 3) rfl (fun h2 h2o => hx h2 3 s 33 4 _ _ fti h2o ci (hti s 33 (by omega) hs)) (.inl (by simp)) rfl ?_
            simp [go_sem, dcs]
            simp (disch := omega) [go_sem, wrap64_small]
            refine ⟨1, by omega, by omega, ?_⟩
            simp [go_sem, dcs, zRec, rcs, four]
          · simp [go_sem]
            refine DCall_set (id := 3) rfl (fun h2 h2o => hx h2 3 s 37 4 _ _ fti h2o ci (hti s 37 (by omega) hs)) (.inl (by simp)) rfl ?_
            simp [go_sem, dcs]
            simp (disch := omega) [go_sem, wrap64_small]
            refine ⟨2, by omega, by omega, ?_⟩
            simp [go_sem, dcs, zRec, rcs, four]
          · simp [go_sem]
            refine DCall_set (id := 3) rfl (fun h2 h2o => hx h2 3 s 41 4 _ _ fti h2o ci (hti s 41 (by omega) hs)) (.inl (by simp)) rfl ?_
            simp [go_sem, dcs]
            simp (disch := omega) [go_sem, wrap64_small]
            refine ⟨3, by omega, by omega, ?_⟩
            simp [go_sem, dcs, zRec, rcs, four]
          · simp [go_sem]
            refine DCall_set (id := 3) rfl (fun h2 h2o => hx h2 3 s 45 4 _ _ fti h2o ci (hti s 45 (by omega) hs)) (.inl (by simp)) rfl ?_
            simp [go_sem, dcs]
            simp (disch := omega) [go_sem, wrap64_small]
            refine ⟨4, by omega, by omega, ?_⟩
            simp [go_sem, dcs, zRec, rcs, four]
          · simp (disch := omega) [go_sem, wrap64_small]
            refine ⟨2, by omega, by omega, ?_⟩
            simp [go_sem, dcs, zRec, rcs]
      · simp [go_sem, dcs]
        refine ACall_is (he (recOf s)) ?_
        by_cases hg : (recOf s).good
        · by_cases hb : recB (recOf s) = s
          · simp [go_sem, encV, hg, hb, journal_Decode.r, decV, decR, hl, Rec.enc, rcs, zRec]
            simp [recOf]
          · simp [go_sem, encV, hg, hb, journal_Decode.r, decV, decR, hl, Rec.enc, rcs, zRec]
        · simp [go_sem, encV, hg, journal_Decode.r, decV, decR, hl, Rec.enc, rcs, zRec]

end
end Go.Abs

