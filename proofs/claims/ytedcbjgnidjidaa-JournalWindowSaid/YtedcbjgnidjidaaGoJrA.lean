/- Words as bytes: what the functions of the encoding of numbers do to values. -/
import Derived.Test.YtedcbjgnidjidaaGoJr
import Derived.Test.YtedcbjgnidjidaaGoHeap
set_option linter.unusedVariables false
set_option linter.unusedSimpArgs false
namespace Go.Abs

/-- The byte at a place of a number of w bytes, the greatest first. -/
def byteAt (w u j : Nat) : UInt8 := UInt8.ofNat (u / 256 ^ (w - 1 - j))
def be (w u : Nat) : List UInt8 := (List.range w).map (byteAt w u)
theorem be_len (w u : Nat) : (be w u).length = w := by simp [be]
theorem be_get {w u j : Nat} (h : j < w) : (be w u)[j]? = some (byteAt w u j) := by simp [be, h]
theorem be_take_succ {w u j : Nat} (h : j < w) : (be w u).take (j + 1) = (be w u).take j ++ [byteAt w u j] := by
  rw [List.take_add_one, be_get h]; rfl

theorem be_takeM {w u j : Nat} (h : j < w) : List.take (j + 1) ((be w u).map byteEl) = List.take j ((be w u).map byteEl) ++ [byteEl (byteAt w u j)] := by
  rw [← List.map_take, be_take_succ h, List.map_append, List.map_take]; rfl
theorem byteEl_def (b : UInt8) : byteEl b = [.i .u8 b.toNat] := _root_.id rfl
theorem byteEl_isD (b : UInt8) : (∀ y ∈ byteEl b, y.isD = true) = True := by simp [byteEl, V.isD]
theorem byteEl_cl (b : UInt8) (n : Nat) : (∀ y ∈ byteEl b, y.cl n = true) = True := by simp [byteEl, V.cl, V.cl1, V.cl0]
theorem bytes_cl (l : List UInt8) (n : Nat) : ∀ el ∈ l.map byteEl, ∀ x ∈ el, x.cl n = true := by
  intro el hel x hx
  simp only [List.mem_map] at hel
  obtain ⟨b, _, rfl⟩ := hel
  exact of_eq_true (byteEl_cl b n) x hx
theorem byteEl_len (b : UInt8) : (byteEl b).length = 1 := _root_.id rfl

/-- A number as 64 bits. -/
def u64 (n : Int) : Nat := (n % 18446744073709551616).toNat
theorem u64_lt (n : Int) : u64 n < 18446744073709551616 := by unfold u64; omega
theorem wrap_u64 (n : Int) : IntKind.u64.wrap n = (u64 n : Int) := by
  simp only [IntKind.wrap, IntKind.bits, IntKind.signed, u64]
  simp
  omega
theorem wrap_u64_small {n : Int} (h1 : 0 ≤ n) (h2 : n < 18446744073709551616) : IntKind.u64.wrap n = n := by
  rw [wrap_u64]; unfold u64; omega
theorem wrap_u8 (n : Nat) : IntKind.u8.wrap (n : Int) = ((UInt8.ofNat n).toNat : Int) := by
  simp only [IntKind.wrap, IntKind.bits, IntKind.signed]
  simp
theorem wrap_u16_small {n : Int} (h1 : 0 ≤ n) (h2 : n < 65536) : IntKind.u16.wrap n = n := by
  simp only [IntKind.wrap, IntKind.bits, IntKind.signed]
  simp
  omega

theorem shr_byte {w u k : Nat} (hw : w ≤ 8) (hk : k < w) : IntKind.u8.wrap ((u : Int).fdiv (2 ^ (min (8 * (w - 1 - k)) 64))) = ((byteAt w u k).toNat : Int) := by
  rw [Nat.min_eq_left (by omega), show (2 : Int) ^ (8 * (w - 1 - k)) = ((256 ^ (w - 1 - k) : Nat) : Int) by rw [show (256 : Nat) = 2 ^ 8 from rfl, ← Nat.pow_mul, Int.natCast_pow]; rfl]
  rw [Int.fdiv_eq_ediv_of_nonneg _ (Int.natCast_nonneg _), ← Int.natCast_ediv, wrap_u8]
  rfl

def ValidWC (P : Program) (f : FuncId) : Prop := ∀ w : Nat, 1 ≤ w → w ≤ 8 → CallIs P f [.i .i64 w] (.b true)
def PutC (P : Program) (f : FuncId) : Prop := ∀ u w : Nat, u < 18446744073709551616 → w ≤ 8 → CallIs P f [.nil, .i .u64 u, .i .i64 w] (.l 1 ((be w u).map byteEl))
def BytesC (P : Program) (f : FuncId) : Prop := ∀ u w : Nat, u < 18446744073709551616 → w ≤ 8 → CallIs P f [.i .u64 u, .i .i64 w] (.s (be w u))
/-- The widths that are in use. -/
def Wd (w : Nat) : Prop := w = 1 ∨ w = 2 ∨ w = 4 ∨ w = 6
def FitsC (P : Program) (f : FuncId) : Prop := ∀ u w : Nat, Wd w → CallIs P f [.i .u64 u, .i .i64 w] (.b (decide (u < 256 ^ w)))
def uintV (w : Nat) (n : Int) : V := if n < 0 ∨ ((256 ^ w : Nat) : Int) ≤ n then .t [.s [], .i .i64 3] else .t [.s (be w n.toNat), .i .i64 0]
def UintC (P : Program) (f : FuncId) : Prop := ∀ (n : Int) (w : Nat), Wd w → n ≤ 9223372036854775807 → CallIs P f [.i .i64 n, .i .i64 w] (uintV w n)
def intV (n : Int) : V := if n < -2147483648 ∨ 2147483648 ≤ n then .t [.s [], .i .i64 3] else .t [.s (be 4 (u64 n)), .i .i64 0]
def IntC (P : Program) (f : FuncId) : Prop := ∀ n : Int, CallIs P f [.i .i64 n, .i .i64 4] (intV n)
def padV (s : List UInt8) (n : Nat) : V := if n < s.length then .t [.s [], .i .i64 2] else .t [.s (s ++ List.replicate (n - s.length) 0), .i .i64 0]
def PadC (P : Program) (f : FuncId) : Prop := ∀ (s : List UInt8) (n : Nat), s.length ≤ 1000000 → n ≤ 65536 → CallIs P f [.s s, .i .i64 n] (padV s n)

def rbEl (w u k j : Nat) : List V := if w - k ≤ j then byteEl (byteAt w u j) else [.i .u8 0]
theorem rb_len (w u k : Nat) : ((List.range w).map (rbEl w u k)).length = w := by simp
theorem rb_zero (w u : Nat) : (List.range w).map (rbEl w u 0) = List.replicate w [.i .u8 0] := by
  rw [List.eq_replicate_iff]
  refine ⟨by simp, fun x hx => ?_⟩
  simp only [List.mem_map, List.mem_range] at hx
  obtain ⟨j, hj, rfl⟩ := hx
  simp [rbEl]; omega
theorem rb_full (w u : Nat) : (List.range w).map (rbEl w u w) = (be w u).map byteEl := by
  simp [be, rbEl]
theorem rb_get {w u k j : Nat} (hj : j < w) : ((List.range w).map (rbEl w u k))[j]? = some (rbEl w u k j) := by simp [hj]
theorem rb_succ {w u k : Nat} (hk : k < w) : ((List.range w).map (rbEl w u k)).set (w - 1 - k) (byteEl (byteAt w u (w - 1 - k))) = (List.range w).map (rbEl w u (k + 1)) := by
  apply List.ext_getElem?
  intro j
  by_cases hj : j < w
  · rw [rb_get hj, List.getElem?_set]
    split
    · rename_i h
      subst h
      rw [if_pos (by simp; omega)]
      simp only [rbEl]
      rw [if_pos (by omega)]
    · rename_i h
      rw [rb_get hj]
      simp only [rbEl]
      congr 1
      by_cases h2 : w - k ≤ j
      · rw [if_pos h2, if_pos (by omega)]
      · rw [if_neg h2, if_neg (by omega)]
  · rw [List.getElem?_eq_none (by simp; omega), List.getElem?_eq_none (by simp; omega)]
theorem rb_byte {w u k : Nat} (hk : k < w) : byteAt w u (w - 1 - k) = UInt8.ofNat (u / 256 ^ k) := by
  unfold byteAt; congr 3; omega

theorem tmod256 (x : Nat) : (x : Int).tmod 256 = ((x % 256 : Nat) : Int) := by
  rw [Int.tmod_eq_emod_of_nonneg (by omega)]; omega
theorem tdiv256 (x : Nat) : (x : Int).tdiv 256 = ((x / 256 : Nat) : Int) := by
  rw [Int.tdiv_eq_ediv_of_nonneg (by omega)]; omega
theorem wrap_u64_nat {x : Nat} (h : x < 18446744073709551616) : IntKind.u64.wrap (x : Int) = x := wrap_u64_small (by omega) (by omega)

section
variable {P : Program} (hm : P.follows .mixedOrders = true)
include hm

theorem wire_valid_ok {f : FuncId} (hf : FnOk P f wire_valid.c wire_valid.r wire_valid.n) : ValidWC P f := by
  intro w h1 h2
  refine PureC.is (pure_of hm hf (Nat.le_of_ble_eq_true rfl) ?_) rfl
  unfold wire_valid.c
  simp [go_sem, wire_valid.r, show (1 : Int) ≤ w by omega, show (w : Int) ≤ 8 by omega]

theorem ref02_fits_ok {f : FuncId} (hf : FnOk P f ref02_fits.c ref02_fits.r ref02_fits.n) : ValidWC P f := by
  intro w h1 h2
  refine PureC.is (pure_of hm hf (Nat.le_of_ble_eq_true rfl) ?_) rfl
  unfold ref02_fits.c
  simp [go_sem, ref02_fits.r, show (1 : Int) ≤ w by omega, show (w : Int) ≤ 8 by omega]

theorem wire_put_ok {f : FuncId} (hf : FnOk P f wire_put.c wire_put.r wire_put.n) : PutC P f := by
  intro u w hu hw
  refine PureC.is (pure_of hm hf (Nat.le_of_ble_eq_true rfl) ?_) rfl
  unfold wire_put.c
  simp [go_sem]
  refine AS_loopG [.t 7 1] (α := Nat) (fun k => k ≤ w)
    (fun k => ⟨[(1, .i .u64 u), (7, .own 0 (k + 1) 0 k), (8, .i .i64 ((w : Int) - 1 - k))], [.arr (k + 1) 1 (((be w u).take k).map byteEl)]⟩)
    (fun k => w - k) 0 (Nat.zero_le _) ?_ ?_
  · simp (disch := omega) [go_sem, wrap64_small]
  · intro k hk
    have hlen : ((be w u).take k).length = k := by rw [List.length_take, be_len]; omega
    by_cases hkw : k < w
    · obtain ⟨d, hd⟩ : ∃ d, d = 8 * (w - 1 - k) := ⟨_, rfl⟩
      have e : IntKind.i64.wrap (8 * ((w : Int) - 1 - k)) = (d : Int) := by rw [wrap64_small (by omega) (by omega)]; omega
      have hb := shr_byte (u := u) hw hkw
      rw [← hd] at hb
      simp [go_sem, show (k : Int) ≤ w - 1 by omega, show ¬ (d : Int) < 0 by omega, e, hb, hlen, byteEl_cl, byteEl_isD]
      simp (disch := omega) [go_sem, wrap64_small]
      refine ⟨⟨by rw [be_len]; omega, by omega, by omega⟩, k + 1, by omega, by omega, ⟨rfl, by omega⟩, ⟨rfl, ?_⟩, ?_⟩
      · rw [List.take_take, Nat.min_self, be_takeM hkw]; rfl
      · exact fun el hel x hx => bytes_cl _ 1 el (List.mem_of_mem_take hel) x hx
    · obtain rfl : k = w := by omega
      have hle : ((be k u).take k) = be k u := List.take_of_length_le (by rw [be_len]; exact Nat.le_refl _)
      have hle' : List.take k ((be k u).map byteEl) = (be k u).map byteEl := List.take_of_length_le (by simp [be_len])
      rw [hle]
      simp [hle', go_sem, show ¬ (k : Int) ≤ (k : Int) - 1 by omega, wire_put.r, be_len, byteEl_isD, byteEl_cl]

theorem wire_fits_ok {f : FuncId} (hf : FnOk P f wire_fits.c wire_fits.r wire_fits.n) : FitsC P f := by
  intro u w hw
  refine PureC.is (pure_of hm hf (Nat.le_of_ble_eq_true rfl) ?_) rfl
  unfold wire_fits.c
  rcases hw with rfl | rfl | rfl | rfl
  · simp (disch := omega) [go_sem, wrap64_small, wrap_u64_small, wire_fits.r]; omega
  · simp (disch := omega) [go_sem, wrap64_small, wrap_u64_small, wire_fits.r]; omega
  · simp (disch := omega) [go_sem, wrap64_small, wrap_u64_small, wire_fits.r]; omega
  · simp (disch := omega) [go_sem, wrap64_small, wrap_u64_small, wire_fits.r]; omega

theorem wire_Uint_ok {f fv ff fp : FuncId} (hf : FnOk P f (wire_Uint.c fv ff fp) wire_Uint.r wire_Uint.n) (hv : ValidWC P fv) (hff : FitsC P ff) (hp : PutC P fp) : UintC P f := by
  intro n w hw hn
  have hw8 : 1 ≤ w ∧ w ≤ 8 := by unfold Wd at hw; omega
  refine PureC.is (pure_of hm hf (Nat.le_of_ble_eq_true rfl) ?_) rfl
  unfold wire_Uint.c
  simp [go_sem]
  refine ACall_is (hv w hw8.1 hw8.2) ?_
  by_cases h0 : n < 0
  · simp [go_sem, h0, wire_Uint.r, uintV]
  · obtain ⟨m, rfl⟩ : ∃ m : Nat, n = m := ⟨n.toNat, by omega⟩
    have hm' : IntKind.u64.wrap (m : Int) = m := wrap_u64_small (by omega) (by omega)
    simp [go_sem, hm', h0]
    refine ACall_is (hff m w hw) ?_
    by_cases h1 : m < 256 ^ w
    · simp [go_sem, h1, hm']
      refine ACall_is (hp m w (by omega) hw8.2) ?_
      have h2 : uintV w (m : Int) = .t [.s (be w m), .i .i64 0] := by
        unfold uintV; rw [if_neg (by omega)]; rfl
      rw [h2]
      simp [go_sem, wire_Uint.r]
    · have h2 : uintV w (m : Int) = .t [.s [], .i .i64 3] := by
        unfold uintV; rw [if_pos (by omega)]
      rw [h2]
      simp [go_sem, h1, wire_Uint.r]

theorem wire_Int_ok {f fv fp : FuncId} (hf : FnOk P f (wire_Int.c fv fp) wire_Int.r wire_Int.n) (hv : ValidWC P fv) (hp : PutC P fp) : IntC P f := by
  intro n
  refine PureC.is (pure_of hm hf (Nat.le_of_ble_eq_true rfl) ?_) rfl
  unfold wire_Int.c
  simp [go_sem]
  refine ACall_is (hv 4 (by omega) (by omega)) ?_
  by_cases h0 : n < -2147483648
  · simp (disch := omega) [go_sem, wrap64_small, h0, wire_Int.r, intV]
  · by_cases h1 : 2147483648 ≤ n
    · simp (disch := omega) [go_sem, wrap64_small, h0, h1, wire_Int.r, intV]
    · have h2 : intV n = .t [.s (be 4 (u64 n)), .i .i64 0] := by
        unfold intV; rw [if_neg (by omega)]
      rw [h2]
      simp (disch := omega) [go_sem, wrap64_small, h0, h1, wrap_u64]
      refine ACall_is (hp (u64 n) 4 (u64_lt n) (by omega)) ?_
      simp [go_sem, wire_Int.r]

theorem wire_Pad_ok {f : FuncId} (hf : FnOk P f wire_Pad.c wire_Pad.r wire_Pad.n) : PadC P f := by
  intro s n hs hn
  refine PureC.is (pure_of hm hf (Nat.le_of_ble_eq_true rfl) ?_) rfl
  unfold wire_Pad.c
  by_cases h : n < s.length
  · simp [go_sem, padV, h, show ¬ (n : Int) < 0 by omega, show ¬ (65536 : Int) < n by omega, show (n : Int) < s.length by omega, wire_Pad.r]
  · have e : IntKind.i64.wrap ((n : Int) - s.length) = ((n - s.length : Nat) : Int) := by rw [wrap64_small (by omega) (by omega)]; omega
    have hb : bytesOf (s.map byteEl ++ List.replicate (n - s.length) [.i .u8 0]) = some (s ++ List.replicate (n - s.length) 0) := by
      have : (List.replicate (n - s.length) [V.i .u8 0]) = (List.replicate (n - s.length) (0 : UInt8)).map byteEl := by
        rw [List.map_replicate]; rfl
      rw [this, ← List.map_append, bytesOf_map]
    simp [go_sem, padV, h, show ¬ (n : Int) < 0 by omega, show ¬ (65536 : Int) < n by omega, show ¬ (n : Int) < s.length by omega, show s.length ≤ 9223372036854775807 by omega, e, wire_Pad.r, hb, List.take_of_length_le]
    omega

theorem ref02_bytes_ok {f : FuncId} (hf : FnOk P f ref02_bytes.c ref02_bytes.r ref02_bytes.n) : BytesC P f := by
  intro u w hu hw
  refine PureC.is (pure_of hm hf (Nat.le_of_ble_eq_true rfl) ?_) rfl
  unfold ref02_bytes.c
  simp [go_sem, show (w : Int) ≤ 140737488355328 by omega, show (w : Int) ≤ 9223372036854775807 by omega]
  refine AS_loop (α := Nat) (fun k => k ≤ w)
    (fun k => ⟨[(0, .i .u64 ((u / 256 ^ k : Nat) : Int)), (5, .own 0 1 0 w), (6, .i .i64 ((w : Int) - 1 - k))], [.arr 1 1 ((List.range w).map (rbEl w u k))]⟩)
    (fun k => w - k) 0 (Nat.zero_le _) ?_ ?_
  · simp (disch := omega) [go_sem, wrap64_small, rb_zero]
  · intro k hk
    by_cases hkw : k < w
    · have e1 : ((w : Int) - 1 - k).toNat = w - 1 - k := by omega
      have e3 : u / 256 ^ k / 256 = u / 256 ^ (k + 1) := by rw [Nat.pow_succ, ← Nat.div_div_eq_div_mul]
      have e4 := wrap_u64_nat (x := u / 256 ^ (k + 1)) (Nat.lt_of_le_of_lt (Nat.div_le_self _ _) hu)
      have e5 : IntKind.u8.wrap ((u / 256 ^ k % 256 : Nat) : Int) = ((byteAt w u (w - 1 - k)).toNat : Int) := by
        rw [wrap_u8, rb_byte hkw, UInt8.toNat_ofNat', UInt8.toNat_ofNat']; omega
      have e7 : (rbEl w u k (w - 1 - k)) = [.i .u8 0] := by simp [rbEl, show ¬ w - k ≤ w - 1 - k by omega]
      have e8 : ((List.range w).map (rbEl w u k)).set (w - 1 - k) [.i .u8 ((byteAt w u (w - 1 - k)).toNat : Int)] = (List.range w).map (rbEl w u (k + 1)) := rb_succ hkw
      have e9 : (List.range w)[w - 1 - k]? = some (w - 1 - k) := List.getElem?_range (by omega)
      generalize hx : u / 256 ^ k = x at *
      simp [-Int.natCast_ediv, -Int.natCast_emod, go_sem, show (k : Int) ≤ w - 1 by omega, e1, tmod256, tdiv256, e3, e4, e5, e7, e8, e9]
      refine ⟨by omega, k + 1, by omega, by omega, ⟨?_, ?_⟩, fun _ _ => rfl, fun a ha x hx => ?_⟩
      · rw [show ((x : Int) / 256) = ((x / 256 : Nat) : Int) by omega, e3, e4]
      · rw [wrap64_small (by omega) (by omega)]; omega
      · unfold rbEl at hx
        split at hx <;> simp [byteEl] at hx <;> subst hx <;> rfl
    · obtain rfl : k = w := by omega
      have hle' : List.take k ((be k u).map byteEl) = (be k u).map byteEl := List.take_of_length_le (by simp [be_len])
      rw [rb_full]
      simp [hle', go_sem, show ¬ (k : Int) ≤ (k : Int) - 1 by omega, ref02_bytes.r, be_len]
end
end Go.Abs

