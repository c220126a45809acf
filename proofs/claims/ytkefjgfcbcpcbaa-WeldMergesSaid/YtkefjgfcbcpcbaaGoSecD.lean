/- What the functions that cut triangles do to values. -/
import Derived.Test.YtkefjgfcbcpcbaaGoSecC
set_option linter.unusedVariables false
set_option linter.unusedSimpArgs false
namespace Go.Abs

/-- A segment: A, B; and whether the triangle is crossed. -/
structure Sg4 where
  a : Int × Int
  b : Int × Int
  found : Bool

def Sg4.init : Sg4 := ⟨(0, 0), (0, 0), false⟩
def Sg4.step (z : Int) (s : Sg4) (u v : V3) : Sg4 :=
  let s1 : Sg4 := match point u v z with | some p => ⟨s.a, p, true⟩ | none => s
  match point v u z with | some p => ⟨p, s1.b, s1.found⟩ | none => s1
def Sg4.cs (s : Sg4) : List V := [.i .i64 s.a.1, .i .i64 s.a.2, .i .i64 s.b.1, .i .i64 s.b.2]

def cutAt (z : Int) (a b c : V3) : Nat → Sg4
  | 0 => .init
  | 1 => Sg4.init.step z a b
  | 2 => (Sg4.init.step z a b).step z b c
  | _ => ((Sg4.init.step z a b).step z b c).step z c a
def cut3 (z : Int) (a b c : V3) : Sg4 := cutAt z a b c 3

def CutC (P : Program) (f : FuncId) : Prop := ∀ (a b c : V3) (z : Int), CallIs P f [.a (a.cs ++ b.cs ++ c.cs), .i .i64 z] (.t [.a (cut3 z a b c).cs, .b (cut3 z a b c).found])

section
variable {P : Program} (hm : P.follows .mixedOrders = true)
include hm

set_option maxHeartbeats 4000000 in
theorem section_cut_ok {f fp : FuncId} (hf : FnOk P f (section_cut.c fp) section_cut.r section_cut.n) (hp : PointC P fp) : CutC P f := by
  intro a b c z
  refine PureC.is (pure_of hm hf (Nat.le_of_ble_eq_true rfl) ?_) rfl
  unfold section_cut.c
  simp [go_sem, vcs]
  refine AS_loop (α := Nat) (fun k => k ≤ 3)
    (fun k => ⟨[(1, .i .i64 z), (2, .p 0 1 0 0), (4, .p 1 1 0 0), (6, .p 2 1 0 0), (7, .b (cutAt z a b c k).found), (15, .a (a.cs ++ b.cs ++ c.cs)), (16, .i .i64 k)],
      [.arr 1 9 [a.cs ++ b.cs ++ c.cs], .arr 1 4 [[.i .i64 0, .i .i64 0, .i .i64 0, .i .i64 0]], .arr 1 4 [(cutAt z a b c k).cs]]⟩)
    (fun k => 3 - k) 0 (Nat.zero_le _) ?_ ?_
  · simp [go_sem, vcs, cutAt, Sg4.init, Sg4.cs]
  · intro k hk
    obtain rfl | rfl | rfl | rfl : k = 0 ∨ k = 1 ∨ k = 2 ∨ k = 3 := by omega
    · have hs : cutAt z a b c 1 = (cutAt z a b c 0).step z a b := _root_.id rfl
      generalize cutAt z a b c 0 = s at hs ⊢
      simp (disch := omega) [go_sem, vcs, Sg4.cs, wrap64_small]
      refine ACall_is (hp a b z) ?_
      cases h1 : point a b z <;> simp [go_sem, ptR] <;> refine ACall_is (hp b a z) ?_ <;> cases h2 : point b a z <;> simp [go_sem, ptR] <;>
        simp (disch := omega) [go_sem, wrap64_small] <;> refine ⟨1, by omega, by omega, ?_⟩ <;> rw [hs] <;> simp [go_sem, vcs, Sg4.cs, Sg4.step, h1, h2]
    · have hs : cutAt z a b c 2 = (cutAt z a b c 1).step z b c := _root_.id rfl
      generalize cutAt z a b c 1 = s at hs ⊢
      simp (disch := omega) [go_sem, vcs, Sg4.cs, wrap64_small]
      refine ACall_is (hp b c z) ?_
      cases h1 : point b c z <;> simp [go_sem, ptR] <;> refine ACall_is (hp c b z) ?_ <;> cases h2 : point c b z <;> simp [go_sem, ptR] <;>
        simp (disch := omega) [go_sem, wrap64_small] <;> refine ⟨2, by omega, by omega, ?_⟩ <;> rw [hs] <;> simp [go_sem, vcs, Sg4.cs, Sg4.step, h1, h2]
    · have hs : cutAt z a b c 3 = (cutAt z a b c 2).step z c a := _root_.id rfl
      generalize cutAt z a b c 2 = s at hs ⊢
      simp (disch := omega) [go_sem, vcs, Sg4.cs, wrap64_small]
      refine ACall_is (hp c a z) ?_
      cases h1 : point c a z <;> simp [go_sem, ptR] <;> refine ACall_is (hp a c z) ?_ <;> cases h2 : point a c z <;> simp [go_sem, ptR] <;>
        simp (disch := omega) [go_sem, wrap64_small] <;> refine ⟨3, by omega, by omega, ?_⟩ <;> rw [hs] <;> simp [go_sem, vcs, Sg4.cs, Sg4.step, h1, h2]
    · simp [go_sem, vcs, Sg4.cs, section_cut.r, cut3]
end
end Go.Abs

