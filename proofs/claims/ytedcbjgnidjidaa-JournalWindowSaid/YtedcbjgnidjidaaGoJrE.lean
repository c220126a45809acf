/- The statements on records, by values. -/
import Derived.Test.YtedcbjgnidjidaaGoJrD
import Derived.Test.YtedcbjgnidjidaaGoHeap
set_option linter.unusedVariables false
set_option linter.unusedSimpArgs false
namespace Go.Abs

def schR : List Sch := [.i .i64, .i .i64, .i .i64, .i .i64, .i .i64, .i .i64, .i .i64, .i .i64, .i .i64, .i .i64, .i .i64, .i .i64]
theorem par_rec {ps : List (Bool × List Sch)} {us : List V} (h : okPars ((true, schR) :: ps) us) : ∃ (v : Rec) (r : List V), us = v.enc :: r ∧ okPars ps r := by
  simp only [okPars, okPar] at h
  obtain ⟨v, r, rfl, ⟨cs, rfl, hc⟩, hr⟩ := h
  simp only [schR, okL, Sch.ok] at hc
  obtain ⟨v1, r1, rfl, ⟨x1, rfl, _⟩, v2, r2, rfl, ⟨x2, rfl, _⟩, v3, r3, rfl, ⟨x3, rfl, _⟩, v4, r4, rfl, ⟨x4, rfl, _⟩, v5, r5, rfl, ⟨x5, rfl, _⟩, v6, r6, rfl, ⟨x6, rfl, _⟩, v7, r7, rfl, ⟨x7, rfl, _⟩, v8, r8, rfl, ⟨x8, rfl, _⟩, v9, r9, rfl, ⟨x9, rfl, _⟩, v10, r10, rfl, ⟨x10, rfl, _⟩, v11, r11, rfl, ⟨x11, rfl, _⟩, v12, r12, rfl, ⟨x12, rfl, _⟩, rfl⟩ := hc
  exact ⟨⟨x1, x2, x3, x4, ⟨x5, x6, x7, x8⟩, ⟨x9, x10, x11, x12⟩⟩, r, rfl, hr⟩

theorem be_succ (w u : Nat) : be (w + 1) u = be w (u / 256) ++ [UInt8.ofNat u] := by
  unfold be
  rw [List.range_succ, List.map_append]
  congr 1
  · apply List.map_congr_left
    intro j hj
    simp only [List.mem_range] at hj
    unfold byteAt
    rw [show w + 1 - 1 - j = (w - 1 - j) + 1 by omega, Nat.pow_succ', Nat.div_div_eq_div_mul]
  · simp [byteAt]
theorem natOf_be : ∀ (w u : Nat), u < 256 ^ w → natOf (be w u) = u
  | 0, u, h => by simp at h; subst h; rfl
  | w + 1, u, h => by
    rw [be_succ, natOf_snoc, natOf_be w (u / 256) (by rw [Nat.pow_succ] at h; omega), UInt8.toNat_ofNat']
    omega
theorem piece {α : Type} {L A B C : List α} {a w : Nat} (hL : L = A ++ (B ++ C)) (hA : A.length = a) (hB : B.length = w) : (L.drop a).take w = B := by
  rw [hL, ← hA, List.drop_left, ← hB, List.take_left]
theorem field_be {s A C : List UInt8} {a w u : Nat} (hL : s = A ++ (be w u ++ C)) (hA : A.length = a) (hu : u < 256 ^ w) : field s a w = u := by
  unfold field; rw [piece hL hA (be_len w u), natOf_be w u hu]
theorem sgn_u64 {n : Int} (h : s32 n) : sgn (u64 n % 4294967296) = n := by
  unfold s32 at h
  unfold sgn u64
  split <;> omega
theorem be_mod (w u : Nat) : be w u = be w (u % 256 ^ w) := by
  induction w generalizing u with
  | zero => rfl
  | succ w ih =>
    rw [be_succ, be_succ, ih (u / 256), ih (u % 256 ^ (w + 1) / 256)]
    have h1 : u % 256 ^ (w + 1) / 256 % 256 ^ w = u / 256 % 256 ^ w := by
      rw [Nat.pow_succ', Nat.mod_mul_right_div_self, Nat.mod_mod]
    have h2 : UInt8.ofNat (u % 256 ^ (w + 1)) = UInt8.ofNat u := by
      apply UInt8.toNat_inj.1
      rw [UInt8.toNat_ofNat', UInt8.toNat_ofNat', Nat.pow_succ]
      exact Nat.mod_mul_left_mod _ _ _
    rw [h1, h2]
theorem field_int {s A C : List UInt8} {a : Nat} {n : Int} (hL : s = A ++ (be 4 (u64 n) ++ C)) (hA : A.length = a) (hn : s32 n) : sgn (field s a 4) = n := by
  rw [be_mod] at hL
  rw [field_be hL hA (Nat.mod_lt _ (by omega))]
  exact sgn_u64 hn

theorem recOf_recB {r : Rec} (hg : r.good) : recOf (recB r) = r := by
  obtain ⟨⟨h1, h2, h3, h4, h5, h6, h7, h8⟩, ⟨a1, a2, a3, a4⟩, ⟨b1, b2, b3, b4⟩⟩ := hg
  have e1 : field (recB r) 0 6 = r.seq.toNat := field_be (A := []) (by simp [recB, bodyB, headB]; rfl) rfl (by omega)
  have e2 : field (recB r) 6 1 = r.kind.toNat := field_be (A := be 6 r.seq.toNat) (by simp [recB, bodyB, headB]; rfl) (be_len _ _) (by omega)
  have e3 : field (recB r) 7 6 = r.line.toNat := field_be (A := be 6 r.seq.toNat ++ be 1 r.kind.toNat) (by simp [recB, bodyB, headB]; rfl) (by simp [be_len]) (by omega)
  have e4 : field (recB r) 13 4 = r.done.toNat := field_be (A := be 6 r.seq.toNat ++ be 1 r.kind.toNat ++ be 6 r.line.toNat) (by simp [recB, bodyB, headB]; rfl) (by simp [be_len]) (by omega)
  have f1 : sgn (field (recB r) 17 4) = r.fr.a := field_int (A := headB r) (by simp [recB, bodyB, pos]; rfl) (headB_len r) a1
  have f2 : sgn (field (recB r) 21 4) = r.fr.b := field_int (A := headB r ++ be 4 (u64 r.fr.a)) (by simp [recB, bodyB, pos]; rfl) (by simp [headB_len, be_len]) a2
  have f3 : sgn (field (recB r) 25 4) = r.fr.c := field_int (A := headB r ++ be 4 (u64 r.fr.a) ++ be 4 (u64 r.fr.b)) (by simp [recB, bodyB, pos]; rfl) (by simp [headB_len, be_len]) a3
  have f4 : sgn (field (recB r) 29 4) = r.fr.d := field_int (A := headB r ++ be 4 (u64 r.fr.a) ++ be 4 (u64 r.fr.b) ++ be 4 (u64 r.fr.c)) (by simp [recB, bodyB, pos]; rfl) (by simp [headB_len, be_len]) a4
  have g1 : sgn (field (recB r) 33 4) = r.to.a := field_int (A := headB r ++ pos r.fr) (by simp [recB, bodyB, pos]; rfl) (by simp [headB_len, pos_len]) b1
  have g2 : sgn (field (recB r) 37 4) = r.to.b := field_int (A := headB r ++ pos r.fr ++ be 4 (u64 r.to.a)) (by simp [recB, bodyB, pos]; rfl) (by simp [headB_len, be_len, pos_len]) b2
  have g3 : sgn (field (recB r) 41 4) = r.to.c := field_int (A := headB r ++ pos r.fr ++ be 4 (u64 r.to.a) ++ be 4 (u64 r.to.b)) (by simp [recB, bodyB, pos]; rfl) (by simp [headB_len, be_len, pos_len]) b3
  have g4 : sgn (field (recB r) 45 4) = r.to.d := field_int (A := headB r ++ pos r.fr ++ be 4 (u64 r.to.a) ++ be 4 (u64 r.to.b) ++ be 4 (u64 r.to.c)) (by simp [recB, bodyB, pos]; rfl) (by simp [headB_len, be_len, pos_len]) b4
  obtain ⟨k, q, l, d, fr, to⟩ := r
  simp only [recOf, four, e1, e2, e3, e4, f1, f2, f3, f4, g1, g2, g3, g4]
  simp only at *
  rw [Int.toNat_of_nonneg (by omega), Int.toNat_of_nonneg (by omega), Int.toNat_of_nonneg (by omega), Int.toNat_of_nonneg (by omega)]

theorem dec_enc {r : Rec} (hg : r.good) : decR (recB r) = (r, 0) := by
  unfold decR
  rw [if_neg (by rw [recB_len]; omega), recOf_recB hg, if_pos ⟨hg, rfl⟩]

theorem xor_cancel {a b c : Nat} (h : a ^^^ c = b ^^^ c) : a = b := by
  have h2 : (a ^^^ c) ^^^ c = (b ^^^ c) ^^^ c := by rw [h]
  rwa [Nat.xor_assoc, Nat.xor_assoc, Nat.xor_self, Nat.xor_zero, Nat.xor_zero] at h2
theorem xor_cancel' {a b c : Nat} (h : c ^^^ a = c ^^^ b) : a = b := by
  rw [Nat.xor_comm c a, Nat.xor_comm c b] at h
  exact xor_cancel h
theorem crcBit_inj {r r' : Nat} (hr : r < 65536) (hr' : r' < 65536) (h : crcBit r = crcBit r') : r = r' := by
  have odd : ∀ x : Nat, ((x * 2) ^^^ 4129) % 2 = 1 := by
    intro x
    have h1 : ((x * 2) ^^^ 4129).testBit 0 = true := by
      rw [Nat.testBit_xor]; simp [Nat.testBit_zero]
    rw [Nat.testBit_zero] at h1
    exact of_decide_eq_true h1
  unfold crcBit at h
  split at h <;> split at h
  · have := xor_cancel h; omega
  · have := odd (r - 32768); omega
  · have := odd (r' - 32768); omega
  · omega
theorem crcN_inj {r r' : Nat} (hr : r < 65536) (hr' : r' < 65536) : ∀ k, crcN k r = crcN k r' → r = r'
  | 0, h => h
  | k + 1, h => crcN_inj hr hr' k (crcBit_inj (crcN_lt hr k) (crcN_lt hr' k) h)
theorem b256_lt (b : UInt8) : b.toNat * 256 < 65536 := by have := b.toNat_lt; omega
theorem crcByte_inj {r r' : Nat} (hr : r < 65536) (hr' : r' < 65536) {b : UInt8} (h : crcByte r b = crcByte r' b) : r = r' :=
  xor_cancel (crcN_inj (xor_lt16 hr (b256_lt b)) (xor_lt16 hr' (b256_lt b)) 8 h)
theorem crcByte_inj' {r : Nat} (hr : r < 65536) {b b' : UInt8} (h : crcByte r b = crcByte r b') : b = b' := by
  have h1 := xor_cancel' (crcN_inj (xor_lt16 hr (b256_lt b)) (xor_lt16 hr (b256_lt b')) 8 h)
  exact UInt8.toNat_inj.1 (by omega)
theorem crc_foldl_inj (s : List UInt8) : ∀ {r r' : Nat}, r < 65536 → r' < 65536 → s.foldl crcByte r = s.foldl crcByte r' → r = r' := by
  induction s with
  | nil => intro r r' _ _ h; exact h
  | cons b s ih =>
    intro r r' hr hr' h
    rw [List.foldl_cons, List.foldl_cons] at h
    exact crcByte_inj hr hr' (ih (crcByte_lt hr b) (crcByte_lt hr' b) h)
theorem crc_one {A B : List UInt8} {x y : UInt8} (h : crc (A ++ (x :: B)) = crc (A ++ (y :: B))) : x = y := by
  unfold crc at h
  rw [List.foldl_append, List.foldl_append, List.foldl_cons, List.foldl_cons] at h
  have hr : A.foldl crcByte 65535 < 65536 := crc_foldl_lt A (by omega)
  exact crcByte_inj' hr (crc_foldl_inj B (crcByte_lt hr x) (crcByte_lt hr y) h)

/-- Two encodings do not differ in one place alone. -/
theorem recB_apart {r r' : Rec} {i : Nat} {v x : UInt8} (hx : (recB r)[i]? = some x) (h : recB r' = (recB r).set i v) : x = v := by
  have hi : i < 64 := by rw [← recB_len r]; exact (List.getElem?_eq_some_iff.1 hx).1
  have hb : bodyB r' = (recB r').take 49 := by
    rw [show recB r' = bodyB r' ++ (be 2 (crc (bodyB r')) ++ List.replicate 7 0 ++ be 6 r'.seq.toNat) by simp [recB], ← bodyB_len r', List.take_left]
  have hb0 : bodyB r = (recB r).take 49 := by
    rw [show recB r = bodyB r ++ (be 2 (crc (bodyB r)) ++ List.replicate 7 0 ++ be 6 r.seq.toNat) by simp [recB], ← bodyB_len r, List.take_left]
  have hc : be 2 (crc (bodyB r')) = ((recB r').drop 49).take 2 := (piece (A := bodyB r') (B := be 2 (crc (bodyB r'))) (C := List.replicate 7 0 ++ be 6 r'.seq.toNat) (by simp [recB]) (bodyB_len r') (be_len _ _)).symm
  have hc0 : be 2 (crc (bodyB r)) = ((recB r).drop 49).take 2 := (piece (A := bodyB r) (B := be 2 (crc (bodyB r))) (C := List.replicate 7 0 ++ be 6 r.seq.toNat) (by simp [recB]) (bodyB_len r) (be_len _ _)).symm
  by_cases h49 : i < 49
  · have e1 : ((recB r').drop 49).take 2 = ((recB r).drop 49).take 2 := by rw [h, List.drop_set_of_lt (by omega)]
    rw [← hc, ← hc0] at e1
    have e2 : crc (bodyB r') = crc (bodyB r) := by
      have := congrArg natOf e1
      rw [natOf_be 2 _ (crc_lt _), natOf_be 2 _ (crc_lt _)] at this
      exact this
    have e3 : bodyB r' = (bodyB r).set i v := by rw [hb, h, hb0, List.take_set]
    have hxb : (bodyB r)[i]? = some x := by rw [hb0, List.getElem?_take, if_pos h49]; exact hx
    obtain ⟨hlt, hg⟩ := List.getElem?_eq_some_iff.1 hxb
    have s1 : bodyB r = (bodyB r).take i ++ (x :: (bodyB r).drop (i + 1)) := by
      rw [← hg, List.getElem_cons_drop hlt, List.take_append_drop]
    have s2 : (bodyB r).set i v = (bodyB r).take i ++ (v :: (bodyB r).drop (i + 1)) := List.set_eq_take_append_cons_drop.trans (if_pos hlt)
    rw [e3, s2] at e2
    rw [s1] at e2
    generalize (bodyB r) = bb at *
    have e4 : crc (bb.take i ++ (v :: bb.drop (i + 1))) = crc (bb.take i ++ (x :: bb.drop (i + 1))) := by
      rw [← s1]
      rw [← s1] at e2
      exact e2
    exact (crc_one e4).symm
  · have e1 : bodyB r' = bodyB r := by rw [hb, h, hb0, List.take_set, List.set_eq_of_length_le (by simp; omega)]
    have e2 : be 6 r'.seq.toNat = be 6 r.seq.toNat := by
      have q : ∀ r : Rec, be 6 r.seq.toNat = (bodyB r).take 6 := fun r => by
        rw [show bodyB r = be 6 r.seq.toNat ++ (be 1 r.kind.toNat ++ (be 6 r.line.toNat ++ (be 4 r.done.toNat ++ (pos r.fr ++ pos r.to)))) by simp [bodyB, headB]]
        exact (List.take_left' (be_len 6 _)).symm
      rw [q, q, e1]
    have e3 : recB r' = recB r := by unfold recB; rw [e1, e2]
    rw [e3] at h
    have := congrArg (·[i]?) h
    simp only [List.getElem?_set_self (show i < (recB r).length by rw [recB_len]; omega), hx] at this
    exact Option.some.inj this

theorem xor8 (a b : UInt8) : arith .xor .u8 (a.toNat : Int) (b.toNat : Int) = some (.i .u8 ((a ^^^ b).toNat : Int)) := by
  rw [arith_xor]
  have : IntKind.u8.bits = 8 := rfl
  have h1 := a.toNat_lt
  have h2 := b.toNat_lt
  rw [this, bv_xor (n := 8) (by omega) (by omega), ← UInt8.toNat_xor, wrap_u8]
  simp

theorem rec_eqa (r : Rec) : veqL [1, 1, 1, 1, 1, 1, 1, 1, 1, 1, 1, 1] r.cs r.cs = some true := by simp [rcs, veqL, sceq]

section
variable {P : Program} (hm : P.follows .mixedOrders = true)
include hm

theorem JournalRecords_ok {f fe fr fv fw fa : FuncId} (hf : FnOk P f (law52_JournalRecords.c fe fr fv fw fa) law52_JournalRecords.r law52_JournalRecords.n) (he : RecEncC P fe) (hr : RecEncC P fr) (hv : RecValidC P fv) (hw : RecValidC P fw) (ha : AwakeC P fa) (r : Rec) :
    PureC P f [r.enc] (· = .b true) := by
  refine pure_of hm hf (Nat.le_of_ble_eq_true rfl) ?_
  unfold law52_JournalRecords.c
  simp [go_sem, Rec.enc, rcs]
  refine ACall_is (he r) ?_
  obtain ⟨s, e, hse⟩ : ∃ s e, encV r = .t [.s s, .i .i64 e] := by unfold encV; split <;> exact ⟨_, _, rfl⟩
  rw [hse]
  simp [go_sem]
  refine ACall_is (hr r) ?_
  rw [hse]
  simp [go_sem]
  refine DCall_is (hv r) ?_
  simp [go_sem]
  refine DCall_is (hw r) ?_
  simp [go_sem]
  refine DCall_is ha ?_
  simp [go_sem, law52_JournalRecords.r]

theorem JournalDecodes_ok {f fa fd fr : FuncId} (hf : FnOk P f (law52_JournalDecodes.c fa fd fr) law52_JournalDecodes.r law52_JournalDecodes.n) (ha : AwakeC P fa) (hd : DecC P fd) (hr : DecC P fr) (s : List UInt8) :
    PureC P f [.s s] (· = .b true) := by
  refine pure_of hm hf (Nat.le_of_ble_eq_true rfl) ?_
  unfold law52_JournalDecodes.c
  by_cases hl : 300 < s.length
  · simp [go_sem, show (300 : Int) < s.length by omega]
    refine ACall_is ha ?_
    simp [go_sem, law52_JournalDecodes.r]
  · simp [go_sem, show ¬ (300 : Int) < s.length by omega]
    refine ACall_is (hd s (by omega)) ?_
    simp [go_sem, decV, Rec.enc, rcs]
    refine ACall_is (hr s (by omega)) ?_
    simp [go_sem, decV, Rec.enc, rcs]
    refine ACall_is ha ?_
    simp [go_sem, law52_JournalDecodes.r]

set_option maxHeartbeats 4000000 in
theorem JournalRoundTrips_ok {f fe fd fv fa : FuncId} (hf : FnOk P f (law52_JournalRoundTrips.c fe fd fv fa) law52_JournalRoundTrips.r law52_JournalRoundTrips.n) (he : RecEncC P fe) (hd : DecC P fd) (hv : RecValidC P fv) (ha : AwakeC P fa) (r : Rec) (s : List UInt8) :
    PureC P f [r.enc, .s s] (· = .b true) := by
  refine pure_of hm hf (Nat.le_of_ble_eq_true rfl) ?_
  unfold law52_JournalRoundTrips.c
  have hd' := fun s h => hd s h
  have fin : True := trivial
  by_cases hg : r.good
  · simp [go_sem, Rec.enc, rcs]
    refine ACall_is (he r) ?_
    simp [go_sem, encV, hg]
    refine ACall_is (hd (recB r) (by rw [recB_len]; omega)) ?_
    simp [go_sem, decV, dec_enc hg, Rec.enc, rcs, recB_len]
    refine ACall_is (hv r) ?_
    simp [go_sem, Rec.valid, hg]
    refine ⟨fun hl => ?_, fun hl => ?_⟩
    · refine ACall_is ha ?_
      simp [go_sem, law52_JournalRoundTrips.r]
    · refine ACall_is (hd s (by omega)) ?_
      by_cases h1 : s.length < 64
      · simp [go_sem, decV, decR, h1, Rec.enc, rcs, zRec]
        refine ACall_is ha ?_
        simp [go_sem, law52_JournalRoundTrips.r]
      · by_cases h2 : (recOf s).good ∧ recB (recOf s) = s
        · have h3 : decR s = (recOf s, 0) := by unfold decR; rw [if_neg h1, if_pos h2]
          simp [go_sem, decV, h3, Rec.enc, rcs]
          refine ACall_is (he (recOf s)) ?_
          simp [go_sem, encV, h2.1, h2.2]
          refine ACall_is ha ?_
          simp [go_sem, law52_JournalRoundTrips.r]
        · have h3 : decR s = (zRec, 19) := by unfold decR; rw [if_neg h1, if_neg h2]
          simp [go_sem, decV, h3, Rec.enc, rcs, zRec]
          refine ACall_is ha ?_
          simp [go_sem, law52_JournalRoundTrips.r]
  · simp [go_sem, Rec.enc, rcs]
    refine ACall_is (he r) ?_
    simp [go_sem, encV, hg]
    refine ACall_is (hv r) ?_
    simp [go_sem, Rec.valid, hg]
    refine ⟨fun hl => ?_, fun hl => ?_⟩
    · refine ACall_is ha ?_
      simp [go_sem, law52_JournalRoundTrips.r]
    · refine ACall_is (hd s (by omega)) ?_
      by_cases h1 : s.length < 64
      · simp [go_sem, decV, decR, h1, Rec.enc, rcs, zRec]
        refine ACall_is ha ?_
        simp [go_sem, law52_JournalRoundTrips.r]
      · by_cases h2 : (recOf s).good ∧ recB (recOf s) = s
        · have h3 : decR s = (recOf s, 0) := by unfold decR; rw [if_neg h1, if_pos h2]
          simp [go_sem, decV, h3, Rec.enc, rcs]
          refine ACall_is (he (recOf s)) ?_
          simp [go_sem, encV, h2.1, h2.2]
          refine ACall_is ha ?_
          simp [go_sem, law52_JournalRoundTrips.r]
        · have h3 : decR s = (zRec, 19) := by unfold decR; rw [if_neg h1, if_neg h2]
          simp [go_sem, decV, h3, Rec.enc, rcs, zRec]
          refine ACall_is ha ?_
          simp [go_sem, law52_JournalRoundTrips.r]

theorem JournalDamage_ok {f fe fa fd : FuncId} (hf : FnOk P f (law52_JournalDamage.c fe fa fd) law52_JournalDamage.r law52_JournalDamage.n) (he : RecEncC P fe) (ha : AwakeC P fa) (hd : DecC P fd) (r : Rec) (n c : Int) (hn : 0 ≤ n ∧ n ≤ 255) (hc : 0 ≤ c ∧ c ≤ 255) :
    PureC P f [r.enc, .i .u8 n, .i .u8 c] (· = .b true) := by
  refine pure_of hm hf (Nat.le_of_ble_eq_true rfl) ?_
  unfold law52_JournalDamage.c
  simp [go_sem, Rec.enc, rcs]
  refine ACall_is (he r) ?_
  by_cases hg : r.good
  · by_cases h0 : c = 0
    · simp [go_sem, encV, hg, recB_len, h0]
      refine ACall_is ha ?_
      simp [go_sem, law52_JournalDamage.r]
    · obtain ⟨x, rfl⟩ : ∃ x : UInt8, c = x.toNat := ⟨UInt8.ofNat c.toNat, by rw [UInt8.toNat_ofNat']; omega⟩
      obtain ⟨i, hi⟩ : ∃ i, i = n.toNat % 64 := ⟨_, rfl⟩
      have e1 : IntKind.i64.wrap n = n := wrap64_small (by omega) (by omega)
      have e2 : n.tmod 64 = (i : Int) := by rw [Int.tmod_eq_emod_of_nonneg hn.1]; omega
      obtain ⟨b, hb⟩ : ∃ b, (recB r)[i]? = some b := ⟨_, List.getElem?_eq_getElem (by rw [recB_len]; omega)⟩
      obtain ⟨hlt, hb'⟩ := List.getElem?_eq_some_iff.1 hb
      have e3' := xor8 b x
      have e4 : bytesOf (((recB r).map byteEl).set i [.i .u8 ((b ^^^ x).toNat : Int)]) = some ((recB r).set i (b ^^^ x)) := by
        have : ((recB r).map byteEl).set i [.i .u8 ((b ^^^ x).toNat : Int)] = ((recB r).set i (b ^^^ x)).map byteEl := by rw [List.map_set]; rfl
        rw [this, bytesOf_map]
      have e5 : (decR ((recB r).set i (b ^^^ x))).2 = 19 := by
        unfold decR
        rw [if_neg (by rw [List.length_set, recB_len]; omega)]
        split
        · rename_i hh
          have := recB_apart hb hh.2
          exfalso
          have h1 : b.toNat = (b ^^^ x).toNat := congrArg UInt8.toNat this
          rw [UInt8.toNat_xor] at h1
          have h2 : b.toNat ^^^ 0 = b.toNat ^^^ x.toNat := by rw [Nat.xor_zero]; exact h1
          have h3 := xor_cancel' h2
          omega
        · rfl
      have hl64 := recB_len r
      have e6 : List.take 64 (((recB r).map byteEl).set i [.i .u8 ((b ^^^ x).toNat : Int)]) = ((recB r).map byteEl).set i [.i .u8 ((b ^^^ x).toNat : Int)] := List.take_of_length_le (by simp [hl64])
      simp [go_sem, encV, hg, recB_len, h0, e1, e2, show i < 64 by omega, hb', byteEl_def, e3', show ¬ x.toNat = 0 by omega]
      rw [UInt8.toNat_xor] at e4 e6
      rw [e6]
      simp [go_sem, e4]
      refine ACall_is (hd _ (by rw [List.length_set, recB_len]; omega)) ?_
      simp [go_sem, decV, e5, Rec.enc, rcs]
      refine ACall_is ha ?_
      simp [go_sem, law52_JournalDamage.r]
  · simp [go_sem, encV, hg]
    refine ACall_is ha ?_
    simp [go_sem, law52_JournalDamage.r]

omit hm in
def rec0 : Rec := ⟨1, 258, 0, 0, ⟨0, 0, 0, 0⟩, ⟨0, 0, 0, 0⟩⟩
omit hm in
theorem rec0_good : rec0.good := by decide
omit hm in
theorem rec0_pre : (recB rec0).take 7 = [0, 0, 0, 0, 1, 2, 1] := by decide +kernel
omit hm in
theorem rec0_suf : (recB rec0).drop 58 = [0, 0, 0, 0, 1, 2] := by decide +kernel

theorem law52_awake_ok {f fe fd : FuncId} (hf : FnOk P f (law52_awake.c fe fd) law52_awake.r law52_awake.n) (he : RecEncC P fe) (hd : DecC P fd) : AwakeC P f := by
  refine PureC.is (pure_of hm hf (Nat.le_of_ble_eq_true rfl) ?_) rfl
  unfold law52_awake.c
  simp [go_sem]
  refine ACall_is (he rec0) ?_
  have h1 := recB_len rec0
  have h2 := rec0_pre
  have h3 := rec0_suf
  have h4 := dec_enc rec0_good
  have h5 : encV rec0 = .t [.s (recB rec0), .i .i64 0] := by unfold encV; rw [if_pos rec0_good]
  rw [h5]
  have h6 := hd (recB rec0) (by omega)
  unfold decV at h6
  rw [h4] at h6
  have h3' : List.drop 58 (List.take 64 (recB rec0)) = [0, 0, 0, 0, 1, 2] := by rw [List.take_of_length_le (by omega)]; exact h3
  generalize recB rec0 = s at *
  simp [go_sem, h1, h2, h3']
  refine ACall_is h6 ?_
  simp [go_sem, rec0, Rec.enc, rcs, law52_awake.r]
end
end Go.Abs

