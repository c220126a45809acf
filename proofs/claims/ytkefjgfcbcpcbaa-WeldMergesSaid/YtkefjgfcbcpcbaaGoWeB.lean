/- What the functions on points and triangles that welding uses do to values. -/
import Derived.Test.YtkefjgfcbcpcbaaGoWe
import Derived.Test.YtkefjgfcbcpcbaaGoCsA
import Derived.Test.YtkefjgfcbcpcbaaGoHeap
import Derived.Test.YtkefjgfcbcpcbaaGoShpA
set_option linter.unusedVariables false
set_option linter.unusedSimpArgs false
namespace Go.Abs
open Go.Sort Go.Proofs

instance : Inhabited V3 := ⟨⟨0, 0, 0⟩⟩
def V3.ints (v : V3) : List Int := [v.x, v.y, v.z]
def LessC (P : Program) (f : FuncId) : Prop := ∀ a b : V3, CallIs P f [a.enc, b.enc] (.b (decide (V3.lt a b)))
def cmpV (a b : V3) : Int := if V3.lt a b then -1 else if V3.lt b a then 1 else 0
def CmpVC (P : Program) (f : FuncId) : Prop := ∀ a b : V3, CallIs P f [a.enc, b.enc] (.i .i64 (cmpV a b))
def BeforeC (P : Program) (f : FuncId) : Prop := ∀ a b : T3, CallIs P f [a.enc, b.enc] (.b (decide (T3.lt a b)))
def TurnedC (P : Program) (f : FuncId) : Prop := ∀ t : T3, CallIs P f [t.enc] t.turned.enc
def SubVC (P : Program) (f : FuncId) : Prop := ∀ a b : V3, a.valid = true → b.valid = true → CallIs P f [a.enc, b.enc] (a.sub b).enc
def CrossVC (P : Program) (f : FuncId) : Prop := ∀ a b : V3, a.within 131072 = true → b.within 131072 = true → CallIs P f [a.enc, b.enc] (a.crs b).enc
def SmallVC (P : Program) (f : FuncId) : Prop := ∀ a : V3, CallIs P f [a.enc] (.b (a.within 131072))
def CollC (P : Program) (f : FuncId) : Prop := ∀ a b c : V3, CallIs P f [a.enc, b.enc, c.enc] (.b (collin a b c))

theorem ltV (a b : V3) : ltOf cmpV a b = decide (V3.lt a b) := by
  unfold ltOf cmpV
  by_cases h1 : V3.lt a b
  · simp [h1]
  · by_cases h2 : V3.lt b a <;> simp [h1, h2]
theorem swoV : SWO (ltOf cmpV) where
  irrefl x := by rw [ltV]; simp [V3.ltO.irr]
  trans x y z h1 h2 := by
    rw [ltV, decide_eq_true_eq] at *
    exact V3.ltO.tr h1 h2
  ntrans x y z h1 h2 := by
    rw [ltV, decide_eq_false_iff_not] at *
    unfold V3.lt at *; omega

section
variable {P : Program} (hm : P.follows .mixedOrders = true)
include hm

theorem vec_Less_ok {f : FuncId} (hf : FnOk P f vec_Less.c vec_Less.r vec_Less.n) : LessC P f := by
  intro a b
  refine PureC.is (pure_of hm hf (Nat.le_of_ble_eq_true rfl) ?_) rfl
  unfold vec_Less.c
  by_cases h1 : a.x = b.x
  · by_cases h2 : a.y = b.y
    · simp [go_sem, V3.enc, vcs, h1, h2, vec_Less.r, V3.lt]
    · simp [go_sem, V3.enc, vcs, h1, h2, vec_Less.r, V3.lt]
  · simp [go_sem, V3.enc, vcs, h1, vec_Less.r, V3.lt]
theorem ref04_Less_ok {f : FuncId} (hf : FnOk P f ref04_Less.c ref04_Less.r ref04_Less.n) : LessC P f := vec_Less_ok hm hf
theorem weld_before_ok {f : FuncId} (hf : FnOk P f weld_before.c weld_before.r weld_before.n) : BeforeC P f := by
  intro a b
  refine PureC.is (pure_of hm hf (Nat.le_of_ble_eq_true rfl) ?_) rfl
  unfold weld_before.c
  by_cases h1 : a.a = b.a
  · by_cases h2 : a.b = b.b
    · simp [go_sem, T3.enc, tcs, h1, h2, weld_before.r, T3.lt]
    · simp [go_sem, T3.enc, tcs, h1, h2, weld_before.r, T3.lt]
  · simp [go_sem, T3.enc, tcs, h1, weld_before.r, T3.lt]
theorem weld_used_1_ok {f fl : FuncId} (hf : FnOk P f (weld_used_1.c fl) weld_used_1.r weld_used_1.n) (hl : LessC P fl) : CmpVC P f := by
  intro a b
  refine PureC.is (pure_of hm hf (Nat.le_of_ble_eq_true rfl) ?_) rfl
  unfold weld_used_1.c
  simp [go_sem, V3.enc, vcs]
  refine ACall_is (hl a b) ?_
  by_cases h1 : V3.lt a b
  · simp [go_sem, h1, weld_used_1.r, cmpV]
  · simp [go_sem, h1]
    refine ACall_is (hl b a) ?_
    by_cases h2 : V3.lt b a <;> simp [go_sem, h1, h2, weld_used_1.r, cmpV]
theorem weld_turned_ok {f fb : FuncId} (hf : FnOk P f (weld_turned.c fb) weld_turned.r weld_turned.n) (hb : BeforeC P fb) : TurnedC P f := by
  intro t
  refine PureC.is (pure_of hm hf (Nat.le_of_ble_eq_true rfl) ?_) rfl
  unfold weld_turned.c
  have w1 : IntKind.i64.wrap 1 = 1 := rfl
  have w2 : IntKind.i64.wrap 2 = 2 := rfl
  simp [go_sem, T3.enc, tcs]
  refine AS_loop (α := Nat) (fun k => k ≤ 2)
    (fun k => ⟨[(1, .p 0 1 0 0), (2, .p 1 1 0 0), (3, .p 2 1 0 0), (5, .i .i64 k)], [.arr 1 3 [(if k = 0 then t else if k = 1 then t.rot else t.rot.rot).cs], .arr 1 3 [[.i .i64 0, .i .i64 0, .i .i64 0]], .arr 1 3 [(if k = 0 then t else if k = 1 then T3.least t t.rot else t.turned).cs]]⟩)
    (fun k => 2 - k) 0 (by omega) ?_ ?_
  · simp [go_sem, tcs]
  · intro k hk
    have : k = 0 ∨ k = 1 ∨ k = 2 := by omega
    rcases this with rfl | rfl | rfl
    · simp [go_sem, tcs, w1]
      refine ACall_is (hb t.rot t) ?_
      by_cases h : T3.lt t.rot t
      · have hl : T3.least t t.rot = t.rot := by simp only [T3.least, h, if_true]
        simp [go_sem, h, w1]
        exact ⟨1, by omega, by omega, rfl, by simp [T3.rot], by rw [hl]; simp [T3.rot]⟩
      · have hl : T3.least t t.rot = t := by simp only [T3.least, h, if_false]
        simp [go_sem, h, w1]
        exact ⟨1, by omega, by omega, rfl, by simp [T3.rot], by rw [hl]; simp⟩
    · simp [go_sem, tcs, w2]
      refine ACall_is (hb t.rot.rot (T3.least t t.rot)) ?_
      by_cases h : T3.lt t.rot.rot (T3.least t t.rot)
      · have hl : t.turned = t.rot.rot := by unfold T3.turned; rw [T3.least, if_pos h]
        simp [go_sem, h, w2]
        exact ⟨2, by omega, by omega, rfl, by simp [T3.rot], by rw [hl]; simp [T3.rot]⟩
      · have hl : t.turned = T3.least t t.rot := by unfold T3.turned; rw [T3.least, if_neg h]
        simp [go_sem, h, w2]
        exact ⟨2, by omega, by omega, rfl, by simp [T3.rot], by rw [hl]; simp⟩
    · simp [go_sem, tcs, weld_turned.r]

theorem vec_Sub_ok {f fv : FuncId} (hf : FnOk P f (vec_Sub.c fv) vec_Sub.r vec_Sub.n) (hv : ValidC P fv) : SubVC P f := by
  intro a b h1 h2
  have g1 := V3.valid_iff.1 h1
  have g2 := V3.valid_iff.1 h2
  refine PureC.is (pure_of hm hf (Nat.le_of_ble_eq_true rfl) ?_) rfl
  unfold vec_Sub.c
  simp [go_sem, V3.enc, vcs]
  refine ACall_is (hv a) ?_
  simp [go_sem, h1]
  refine ACall_is (hv b) ?_
  simp (disch := omega) [go_sem, h2, wrap64_small, vec_Sub.r, V3.sub]
theorem ref04_Sub_ok {f fv : FuncId} (hf : FnOk P f (ref04_Sub.c fv) ref04_Sub.r ref04_Sub.n) (hv : ValidC P fv) : SubVC P f := vec_Sub_ok hm hf hv
theorem vec_small_ok {f fw : FuncId} (hf : FnOk P f (vec_small.c fw) vec_small.r vec_small.n) (hw : WithinC P fw) : SmallVC P f := by
  intro a
  refine PureC.is (pure_of hm hf (Nat.le_of_ble_eq_true rfl) ?_) rfl
  unfold vec_small.c
  simp [go_sem, V3.enc, vcs]
  refine ACall_is ((hw a 131072 (by omega) (by omega)).is rfl) ?_
  simp [go_sem, vec_small.r]
theorem ref04_small_ok {f fw : FuncId} (hf : FnOk P f (ref04_small.c fw) ref04_small.r ref04_small.n) (hw : WithinC P fw) : SmallVC P f := vec_small_ok hm hf hw
theorem vec_Cross_ok {f fv : FuncId} (hf : FnOk P f (vec_Cross.c fv) vec_Cross.r vec_Cross.n) (hv : SmallVC P fv) : CrossVC P f := by
  intro a b h1 h2
  have g1 : (-131072 ≤ a.x ∧ a.x ≤ 131072 ∧ -131072 ≤ a.y ∧ a.y ≤ 131072 ∧ -131072 ≤ a.z ∧ a.z ≤ 131072) := by simpa [V3.within, and_assoc] using h1
  have g2 : (-131072 ≤ b.x ∧ b.x ≤ 131072 ∧ -131072 ≤ b.y ∧ b.y ≤ 131072 ∧ -131072 ≤ b.z ∧ b.z ≤ 131072) := by simpa [V3.within, and_assoc] using h2
  have m1 := mulb (x := a.y) (y := b.z) (A := 131072) (B := 131072) (by omega) (by omega) (by omega) (by omega)
  have m2 := mulb (x := a.z) (y := b.y) (A := 131072) (B := 131072) (by omega) (by omega) (by omega) (by omega)
  have m3 := mulb (x := a.z) (y := b.x) (A := 131072) (B := 131072) (by omega) (by omega) (by omega) (by omega)
  have m4 := mulb (x := a.x) (y := b.z) (A := 131072) (B := 131072) (by omega) (by omega) (by omega) (by omega)
  have m5 := mulb (x := a.x) (y := b.y) (A := 131072) (B := 131072) (by omega) (by omega) (by omega) (by omega)
  have m6 := mulb (x := a.y) (y := b.x) (A := 131072) (B := 131072) (by omega) (by omega) (by omega) (by omega)
  refine PureC.is (pure_of hm hf (Nat.le_of_ble_eq_true rfl) ?_) rfl
  unfold vec_Cross.c
  simp [go_sem, V3.enc, vcs]
  refine ACall_is (hv a) ?_
  simp [go_sem, h1]
  refine ACall_is (hv b) ?_
  simp (disch := omega) [go_sem, h2, wrap64_small, vec_Cross.r, V3.crs]
theorem ref04_Cross_ok {f fv : FuncId} (hf : FnOk P f (ref04_Cross.c fv) ref04_Cross.r ref04_Cross.n) (hv : SmallVC P fv) : CrossVC P f := vec_Cross_ok hm hf hv

omit hm in
theorem sub_within {a b : V3} (h1 : a.valid = true) (h2 : b.valid = true) : (a.sub b).within 131072 = true := by
  have g1 := V3.valid_iff.1 h1
  have g2 := V3.valid_iff.1 h2
  simp only [V3.within, Bool.and_eq_true, decide_eq_true_eq]
  simp only [V3.sub]
  omega
omit hm in
theorem v3_zero (v : V3) : decide (v = ⟨0, 0, 0⟩) = (v.x == 0 && (v.y == 0 && v.z == 0)) := by
  cases v; rw [Bool.eq_iff_iff]; simp [V3.mk.injEq]
theorem vec_Collinear_ok {f fv fs fc : FuncId} (hf : FnOk P f (vec_Collinear.c fv fs fc) vec_Collinear.r vec_Collinear.n) (hv : ValidC P fv) (hs : SubVC P fs) (hc : CrossVC P fc) : CollC P f := by
  intro a b c
  refine PureC.is (pure_of hm hf (Nat.le_of_ble_eq_true rfl) ?_) rfl
  unfold vec_Collinear.c
  simp [go_sem, V3.enc, vcs]
  refine DCall_is (hv a) ?_
  cases h1 : a.valid
  · simp [go_sem, vec_Collinear.r, collin, h1]
  simp [go_sem]
  refine DCall_is (hv b) ?_
  cases h2 : b.valid
  · simp [go_sem, vec_Collinear.r, collin, h1, h2]
  simp [go_sem]
  refine DCall_is (hv c) ?_
  cases h3 : c.valid
  · simp [go_sem, vec_Collinear.r, collin, h1, h2, h3]
  simp [go_sem]
  refine DCall_is (hs b a h2 h1) ?_
  simp [go_sem]
  refine DCall_is (hs c a h3 h1) ?_
  simp [go_sem]
  refine DCall_is (hc _ _ (sub_within h2 h1) (sub_within h3 h1)) ?_
  simp [go_sem, V3.enc, vcs, vec_Collinear.r, collin, h1, h2, h3, v3_zero]
end
end Go.Abs

