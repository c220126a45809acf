/- Part of the library on which the proof stands: an abstract machine, its values and its soundness against the model; or what functions of the program do to such values. -/
import Derived.Test.YtoppidobgkgiiaaAbsWS
import Derived.Test.YtoppidobgkgiiaaGoShp
import Derived.Test.YtoppidobgkgiiaaGoRevC
set_option linter.unusedVariables false
set_option linter.unusedSimpArgs false
namespace Go.Abs

def AwakeC (P : Program) (f : FuncId) : Prop := CallIs P f [] (.b true)

theorem par_0 {us : List V} (h : okPars [] us) : us = [] := h
end Go.Abs
set_option linter.unusedVariables false
set_option linter.unusedSimpArgs false
namespace Go.Abs

def CloneC (P : Program) (f : FuncId) (sz : Nat) : Prop := ∀ els : List (List V), els.all (fun el => el.all V.isD) = true → els.length ≤ 1000000 → NewC P f [.l sz els] (fun r h => r = .own 0 1 0 els.length ∧ h = [.arr 1 sz els])

theorem isD_cl {x : V} (n : Nat) (h : x.isD = true) : x.cl n = true := by cases x <;> simp [V.isD] at h <;> simp [V.cl, V.cl1, V.cl0]

section
variable {P : Program} (hm : P.follows .mixedOrders = true)
include hm

theorem slices_Clone3_ok {f : FuncId} (hf : FnOk P f slices_Clone_api_Vec_api_Vec.c slices_Clone_api_Vec_api_Vec.r slices_Clone_api_Vec_api_Vec.n) : CloneC P f 3 := by
  intro els hel hlen
  refine ACall_ghost 3 ?_
  refine new_of hm hf (Nat.le_of_ble_eq_true rfl) ?_
  unfold slices_Clone_api_Vec_api_Vec.c
  cases els with
  | nil => simp [go_sem, slices_Clone_api_Vec_api_Vec.r]
  | cons e l =>
    simp only [List.length_cons] at hlen
    simp [go_sem, slices_Clone_api_Vec_api_Vec.r]
    simp only [List.all_cons, Bool.and_eq_true, List.all_eq_true] at hel
    exact ⟨⟨by omega, by omega⟩, fun x hx => isD_cl 1 (hel.1 x hx), fun a ha x hx => isD_cl 1 (hel.2 a ha x hx)⟩
theorem slices_CloneT_ok {f : FuncId} (hf : FnOk P f slices_Clone_api_Tri_api_Tri.c slices_Clone_api_Tri_api_Tri.r slices_Clone_api_Tri_api_Tri.n) : CloneC P f 3 := slices_Clone3_ok hm hf
end

/-- Cloning, for closed runs. -/
def cloneK (sz : Nat) : List V → Option (V × List O)
  | [.l sz' els] => bif sz' == sz && Nat.ble els.length 1000 && els.all (fun el => el.all V.isD) then some (.own 0 1 0 els.length, [.arr 1 sz els]) else none
  | [.nil] => some (.own 0 1 0 0, [.arr 1 sz []])
  | _ => none
theorem cloneK_ok {P : Program} {f : FuncId} {sz : Nat} {vs : List V} {r0 : V} {h0 : List O} (hc : CloneC P f sz) (he : cloneK sz vs = some (r0, h0)) : NewC P f vs (fun r h => r = r0 ∧ h = h0) := by
  unfold cloneK at he
  split at he
  · rename_i sz' els
    cases hb : sz' == sz && Nat.ble els.length 1000 && els.all (fun el => el.all V.isD)
    · rw [hb] at he; simp at he
    rw [hb] at he
    simp only [cond_true, Option.some.injEq, Prod.mk.injEq] at he
    obtain ⟨rfl, rfl⟩ := he
    simp only [Bool.and_eq_true, beq_iff_eq] at hb
    obtain ⟨⟨rfl, h2⟩, h3⟩ := hb
    exact hc els h3 (Nat.le_trans (Nat.le_of_ble_eq_true h2) (by omega))
  · simp only [Option.some.injEq, Prod.mk.injEq] at he
    obtain ⟨rfl, rfl⟩ := he
    have hl : LeL Le [V.nil] [.l sz []] := ⟨.inl (.inl (Le0.nil sz)), trivial⟩
    exact ACall_le hl (hc [] rfl (by simp))
  · simp at he
end Go.Abs
set_option linter.unusedVariables false
set_option linter.unusedSimpArgs false
namespace Go.Abs

def orient_Coherent.c (mesh_Check orient_coherent : FuncId) : C :=
 (.seq
  (.reg [
    ⟨(some 1), none, .box (.t 0)⟩,
    ⟨(some 2), none, .mv (.c (.b false))⟩])
  (.seq
   (.reg [
     ⟨(some 3), none, .ld (some 2) (.t 1)⟩,
     ⟨(some 4), none, .call mesh_Check [(.t 3)]⟩,
     ⟨(some 5), none, .bin .eql (.t 4) (.c (.i .i64 0))⟩,
     ⟨(some 6), none, .mv (.t 5)⟩,
     ⟨(some 7), (some (6, true)), .fa 1 (.t 1)⟩,
     ⟨(some 8), (some (6, true)), .ld none (.t 7)⟩,
     ⟨(some 9), (some (6, true)), .call orient_coherent [(.t 8)]⟩,
     ⟨(some 10), none, .pick (.t 6) (.t 9) (.c (.b false))⟩,
     ⟨(some 2), none, .mv (.t 10)⟩])
   .ret))
def orient_Coherent.r : List Rr := [.tmp 2]
abbrev orient_Coherent.n : Nat := 11
def orient_coherent.c (orient_edges : FuncId) : C :=
 (.seq
  (.reg [
    ⟨(some 2), none, .mv (.c (.b false))⟩])
  (.seq
   (.reg [
     ⟨(some 8), none, .mkm none⟩,
     ⟨(some 3), none, .mv (.t 8)⟩])
   (.seq
    (.seq
     (.reg [
       ⟨(some 9), none, .mv (.t 0)⟩,
       ⟨(some 10), none, .len 0 (.t 9)⟩,
       ⟨(some 11), none, .mv (.c (.i .i64 0))⟩])
     (.blk 0
      (.loop
       (.seq
        (.reg [
          ⟨(some 12), none, .bin .lss (.t 11) (.t 10)⟩])
        (.seq
         (.ite (.t 12)
          .skip
          (.exit 0))
         (.seq
          (.blk 1
           (.seq
            (.reg [
              ⟨(some 13), none, .ia 3 (.t 9) (.t 11)⟩,
              ⟨(some 14), none, .ld (some 3) (.t 13)⟩,
              ⟨(some 5), none, .alloc [(.i .i64 0), (.i .i64 0), (.i .i64 0)]⟩,
              ⟨none, none, .st 3 (.t 5) (.t 14)⟩])
            (.seq
             (.reg [
               ⟨(some 15), none, .ld (some 3) (.t 5)⟩,
               ⟨(some 16), none, .call orient_edges [(.t 15)]⟩,
               ⟨(some 17), none, .len 0 (.t 16)⟩,
               ⟨(some 18), none, .mv (.c (.i .i64 0))⟩])
             (.blk 2
              (.loop
               (.seq
                (.reg [
                  ⟨(some 19), none, .bin .lss (.t 18) (.t 17)⟩])
                (.seq
                 (.ite (.t 19)
                  .skip
                  (.exit 2))
                 (.seq
                  (.blk 3
                   (.seq
                    (.reg [
                      ⟨(some 20), none, .ia 2 (.t 16) (.t 18)⟩,
                      ⟨(some 21), none, .ld (some 2) (.t 20)⟩,
                      ⟨(some 7), none, .alloc [(.i .i64 0), (.i .i64 0)]⟩,
                      ⟨none, none, .st 2 (.t 7) (.t 21)⟩])
                    (.seq
                     (.reg [
                       ⟨(some 22), none, .mv (.t 3)⟩,
                       ⟨(some 23), none, .ld (some 2) (.t 7)⟩,
                       ⟨none, none, .eqa [1, 1] false (.t 23) (.t 23)⟩,
                       ⟨(some 24), none, .lk [1, 1] (.i .i64 0) false (.t 22) (.t 23)⟩,
                       ⟨(some 25), none, .bin .add (.t 24) (.c (.i .i64 1))⟩,
                       ⟨(some 26), none, .ment [1, 1] (.i .i64 0) (.t 22) (.t 23)⟩,
                       ⟨(some 27), none, .ext (.t 26) 1⟩,
                       ⟨none, none, .est (.t 22) (.t 27) (.t 25)⟩])
                     (.seq
                      (.reg [
                        ⟨(some 28), none, .mv (.t 3)⟩,
                        ⟨(some 29), none, .ld (some 2) (.t 7)⟩,
                        ⟨(some 30), none, .lk [1, 1] (.i .i64 0) false (.t 28) (.t 29)⟩,
                        ⟨(some 31), none, .bin .gtr (.t 30) (.c (.i .i64 1))⟩])
                      (.ite (.t 31)
                       (.seq
                        (.reg [
                          ⟨(some 2), none, .mv (.c (.b false))⟩])
                        .ret)
                       .skip)))))
                  (.reg [
                    ⟨(some 32), none, .bin .add (.t 18) (.c (.i .i64 1))⟩,
                    ⟨(some 18), none, .mv (.t 32)⟩])))))))))
          (.reg [
            ⟨(some 33), none, .bin .add (.t 11) (.c (.i .i64 1))⟩,
            ⟨(some 11), none, .mv (.t 33)⟩])))))))
    (.seq
     (.reg [
       ⟨(some 2), none, .mv (.c (.b true))⟩])
     .ret))))
def orient_coherent.r : List Rr := [.tmp 2]
abbrev orient_coherent.n : Nat := 34
def orient_edges.c : C :=
 (.seq
  (.reg [
    ⟨(some 1), none, .box (.t 0)⟩,
    ⟨(some 2), none, .mv (.c .nil)⟩])
  (.seq
   (.reg [
     ⟨(some 3), none, .mv (.c .nil)⟩])
   (.seq
    (.seq
     (.reg [
       ⟨(some 6), none, .fa 0 (.t 1)⟩,
       ⟨(some 7), none, .ld none (.t 6)⟩,
       ⟨(some 8), none, .fa 1 (.t 1)⟩,
       ⟨(some 9), none, .ld none (.t 8)⟩,
       ⟨(some 10), none, .build [(.i .i64 0), (.i .i64 0)] [(0, 1, (.t 7)), (1, 1, (.t 9))]⟩,
       ⟨(some 11), none, .fa 1 (.t 1)⟩,
       ⟨(some 12), none, .ld none (.t 11)⟩,
       ⟨(some 13), none, .fa 2 (.t 1)⟩,
       ⟨(some 14), none, .ld none (.t 13)⟩,
       ⟨(some 15), none, .build [(.i .i64 0), (.i .i64 0)] [(0, 1, (.t 12)), (1, 1, (.t 14))]⟩,
       ⟨(some 16), none, .fa 2 (.t 1)⟩,
       ⟨(some 17), none, .ld none (.t 16)⟩,
       ⟨(some 18), none, .fa 0 (.t 1)⟩,
       ⟨(some 19), none, .ld none (.t 18)⟩,
       ⟨(some 20), none, .build [(.i .i64 0), (.i .i64 0)] [(0, 1, (.t 17)), (1, 1, (.t 19))]⟩,
       ⟨(some 21), none, .build [(.i .i64 0), (.i .i64 0), (.i .i64 0), (.i .i64 0), (.i .i64 0), (.i .i64 0)] [(0, 2, (.t 10)), (2, 2, (.t 15)), (4, 2, (.t 20))]⟩,
       ⟨(some 22), none, .mv (.c (.i .i64 0))⟩])
     (.blk 0
      (.loop
       (.seq
        (.reg [
          ⟨(some 23), none, .bin .lss (.t 22) (.c (.i .i64 3))⟩])
        (.seq
         (.ite (.t 23)
          .skip
          (.exit 0))
         (.seq
          (.blk 1
           (.seq
            (.reg [
              ⟨(some 24), none, .ix 3 2 (some 2) (.t 21) (.t 22)⟩,
              ⟨(some 5), none, .alloc [(.i .i64 0), (.i .i64 0)]⟩,
              ⟨none, none, .st 2 (.t 5) (.t 24)⟩])
            (.seq
             (.reg [
               ⟨(some 25), none, .fa 0 (.t 5)⟩,
               ⟨(some 26), none, .ld none (.t 25)⟩,
               ⟨(some 27), none, .fa 1 (.t 5)⟩,
               ⟨(some 28), none, .ld none (.t 27)⟩,
               ⟨(some 29), none, .bin .neq (.t 26) (.t 28)⟩])
             (.ite (.t 29)
              (.reg [
                ⟨(some 30), none, .mv (.t 3)⟩,
                ⟨(some 31), none, .ld (some 2) (.t 5)⟩,
                ⟨(some 32), none, .bsi 2 1 [(.i .i64 0), (.i .i64 0)] [(0, (.t 31))]⟩,
                ⟨(some 33), none, .app 2 16 (.t 30) (.t 32)⟩,
                ⟨(some 3), none, .mv (.t 33)⟩])
              .skip))))
          (.reg [
            ⟨(some 34), none, .bin .add (.t 22) (.c (.i .i64 1))⟩,
            ⟨(some 22), none, .mv (.t 34)⟩])))))))
    (.seq
     (.reg [
       ⟨(some 35), none, .mv (.t 3)⟩,
       ⟨(some 2), none, .mv (.t 35)⟩])
     .ret))))
def orient_edges.r : List Rr := [.tmp 2]
abbrev orient_edges.n : Nat := 36
end Go.Abs
set_option linter.unusedVariables false
set_option linter.unusedSimpArgs false
namespace Go.Abs

theorem list_of {α : Type} {f : α → List V} {el : List Sch} (hf : ∀ e, okL el e → ∃ v, e = f v) : ∀ els : List (List V), (∀ e ∈ els, okL el e) → ∃ l : List α, els = l.map f
  | [], _ => ⟨[], rfl⟩
  | e :: els, h => by
    obtain ⟨l, rfl⟩ := list_of hf els (fun e he => h e (by simp [he]))
    obtain ⟨v, rfl⟩ := hf e (h e (by simp))
    exact ⟨v :: l, rfl⟩

end Go.Abs
set_option linter.unusedVariables false
set_option linter.unusedSimpArgs false
namespace Go.Abs

structure P2 where
  x : Int
  y : Int
deriving DecidableEq
def P2.cs (p : P2) : List V := [.i .i64 p.x, .i .i64 p.y]
def P2.enc (p : P2) : V := .a p.cs
def psV (l : List P2) : V := .l 2 (l.map P2.cs)
theorem pcs (p : P2) : p.cs = [.i .i64 p.x, .i .i64 p.y] := _root_.id rfl

def inI (n : Int) : Bool := decide (-9223372036854775808 ≤ n) && decide (n ≤ 9223372036854775807)
theorem inI_iff {n : Int} : inI n = true ↔ (-9223372036854775808 ≤ n ∧ n ≤ 9223372036854775807) := by simp [inI]

/-- The result of a function that makes a mesh. -/
def mesV (m : Mesh) (e : Int) : V := .t [m.enc, .i .i64 e]
def noMesh : Mesh := ⟨[], []⟩
theorem mesV_le {u v : V} {vs : List V3} {ts : List T3} {e : Int} (h1 : Le0 u (vsV vs)) (h2 : Le0 v (tsV ts)) : Le (.t [.a [u, v], .i .i64 e]) (mesV ⟨vs, ts⟩ e) :=
  .inr ⟨_, _, rfl, rfl, .inr ⟨_, _, rfl, rfl, h1, h2, trivial⟩, Le1.refl _, trivial⟩
theorem noMesh_le (e : Int) : Le (.t [.a [.nil, .nil], .i .i64 e]) (mesV noMesh e) := mesV_le (Le0.nil 3) (Le0.nil 3)

def FitsVC (P : Program) (f : FuncId) : Prop := ∀ l : List V3, l.length ≤ 1000000 → CallIs P f [vsV l] (.b (vsOk l))
def NearC (P : Program) (f : FuncId) : Prop := ∀ v : V3, CallIs P f [v.enc] (.b (v.within 131072))
def V3.plus (a b : V3) : V3 := ⟨IntKind.i64.wrap (a.x + b.x), IntKind.i64.wrap (a.y + b.y), IntKind.i64.wrap (a.z + b.z)⟩
def PlusC (P : Program) (f : FuncId) : Prop := ∀ a b : V3, CallIs P f [a.enc, b.enc] (a.plus b).enc
def V3.add (a b : V3) : V3 := ⟨a.x + b.x, a.y + b.y, a.z + b.z⟩

def boxVerts (p s : V3) : List V3 :=
  [⟨p.x, p.y, p.z⟩, ⟨p.x + s.x, p.y, p.z⟩, ⟨p.x, p.y + s.y, p.z⟩, ⟨p.x + s.x, p.y + s.y, p.z⟩, ⟨p.x, p.y, p.z + s.z⟩, ⟨p.x + s.x, p.y, p.z + s.z⟩, ⟨p.x, p.y + s.y, p.z + s.z⟩, ⟨p.x + s.x, p.y + s.y, p.z + s.z⟩]
def CornersBC (P : Program) (f : FuncId) : Prop := ∀ p s : V3, p.valid = true → s.within 131072 = true → CallIs P f [p.enc, s.enc] (.a ((boxVerts p s).flatMap V3.cs))
theorem within_iff {v : V3} {k : Int} : v.within k = true ↔ (-k ≤ v.x ∧ v.x ≤ k ∧ -k ≤ v.y ∧ v.y ≤ k ∧ -k ≤ v.z ∧ v.z ≤ k) := by
  simp [V3.within, and_assoc]
theorem plus_add {a b : V3} (h1 : a.valid = true) (h2 : b.within 131072 = true) : a.plus b = a.add b := by
  have := V3.valid_iff.1 h1
  have := within_iff.1 h2
  simp only [V3.plus, V3.add]
  rw [wrap64_small (by omega) (by omega), wrap64_small (by omega) (by omega), wrap64_small (by omega) (by omega)]

section
variable {P : Program} (hm : P.follows .mixedOrders = true)
include hm

theorem shapes_fits_ok {f fv : FuncId} (hf : FnOk P f (shapes_fits.c fv) shapes_fits.r shapes_fits.n) (hv : ValidC P fv) : FitsVC P f := by
  intro l hl
  refine PureC.is (pure_of hm hf (Nat.le_of_ble_eq_true rfl) ?_) rfl
  unfold shapes_fits.c
  simp [go_sem, vsV]
  refine AS_loop (α := Nat) (fun k => k ≤ l.length ∧ vsOk (l.take k) = true)
    (fun k => ⟨[(5, vsV l), (6, .i .i64 l.length), (7, .i .i64 k)], []⟩)
    (fun k => l.length - k) 0 ⟨Nat.zero_le _, rfl⟩ ?_ ?_
  · simp [go_sem, vsV]
  · rintro k ⟨hk, hok⟩
    cases hp : l[k]? with
    | none =>
      have : ¬ k < l.length := by simpa using hp
      obtain rfl : k = l.length := by omega
      rw [List.take_length] at hok
      simp [go_sem, vsV, shapes_fits.r, hok]
    | some p =>
      obtain ⟨hlt, hp'⟩ := List.getElem?_eq_some_iff.1 hp
      simp [go_sem, vsV, hlt, hp', vcs]
      refine ACall_is (hv p) ?_
      cases hvp : p.valid
      · simp [go_sem, shapes_fits.r, vsOk_false hp hvp]
      · simp (disch := omega) [go_sem, wrap64_small]
        refine ⟨k + 1, ⟨by omega, ?_⟩, by omega, ?_⟩
        · rw [vsOk_succ hp, hok, hvp]; rfl
        · simp (disch := omega) [go_sem, vsV, wrap64_small]
theorem shapes_near_ok {f : FuncId} (hf : FnOk P f shapes_near.c shapes_near.r shapes_near.n) : NearC P f := by
  intro v
  refine PureC.is (pure_of hm hf (Nat.le_of_ble_eq_true rfl) ?_) rfl
  unfold shapes_near.c
  have hw := @within_iff v 131072
  by_cases h1 : v.x ≤ 131072 ∧ v.y ≤ 131072 ∧ v.z ≤ 131072
  · have h2 : max (max v.x v.y) v.z ≤ 131072 := by omega
    simp +contextual -implicitDefEqProofs [go_sem, V3.enc, V3.cs, shapes_near.r, h1, h2]
    rw [Bool.eq_iff_iff, hw]; simp; omega
  · have h2 : ¬ max (max v.x v.y) v.z ≤ 131072 := by omega
    simp +contextual -implicitDefEqProofs [go_sem, V3.enc, V3.cs, shapes_near.r, h1, h2]
    rw [Bool.eq_iff_iff, hw]; simp; omega

theorem shapes_plus_ok {f : FuncId} (hf : FnOk P f shapes_plus.c shapes_plus.r shapes_plus.n) : PlusC P f := by
  intro a b
  refine PureC.is (pure_of hm hf (Nat.le_of_ble_eq_true rfl) ?_) rfl
  unfold shapes_plus.c
  simp [go_sem, V3.enc, V3.cs, shapes_plus.r, V3.plus]

set_option maxHeartbeats 4000000 in
theorem shapes_corners_ok {f fp : FuncId} (hf : FnOk P f (shapes_corners.c fp) shapes_corners.r shapes_corners.n) (hp : PlusC P fp) : CornersBC P f := by
  intro p s hv hs
  have h1 := V3.valid_iff.1 hv
  have h2 := within_iff.1 hs
  refine PureC.is (pure_of hm hf (Nat.le_of_ble_eq_true rfl) ?_) rfl
  unfold shapes_corners.c
  simp [go_sem, V3.enc, V3.cs]
  refine AS_loop (α := Nat) (fun k => k ≤ 8)
    (fun k => ⟨[(2, .p 0 1 0 0), (3, .p 1 1 0 0), (4, .p 2 1 0 0), (5, .p 3 1 0 0), (7, .i .i64 k)], [.arr 1 3 [p.cs], .arr 1 3 [s.cs], .arr 1 24 [List.replicate 24 (.i .i64 0)], .arr 1 24 [((boxVerts p s).take k).flatMap V3.cs ++ List.replicate (24 - 3 * k) (.i .i64 0)]]⟩)
    (fun k => 8 - k) 0 (by omega) ?_ ?_
  · simp [go_sem, vcs]
  · intro k hk
    by_cases h8 : k = 8
    · subst h8
      simp [go_sem, shapes_corners.r, boxVerts, V3.cs]
    · have : k = 0 ∨ k = 1 ∨ k = 2 ∨ k = 3 ∨ k = 4 ∨ k = 5 ∨ k = 6 ∨ k = 7 := by omega
      have w0 : IntKind.i64.wrap 0 = 0 := rfl
      have w1 : IntKind.i64.wrap 1 = 1 := rfl
      have wx : IntKind.i64.wrap s.x = s.x := wrap64_small (by omega) (by omega)
      have wy : IntKind.i64.wrap s.y = s.y := wrap64_small (by omega) (by omega)
      have wz : IntKind.i64.wrap s.z = s.z := wrap64_small (by omega) (by omega)
      rcases this with rfl | rfl | rfl | rfl | rfl | rfl | rfl | rfl
      · simp [go_sem, vcs, w0, w1, wx, wy, wz]
        refine ACall_is (hp p ⟨0, 0, 0⟩) ?_
        simp (disch := omega) [go_sem, wrap64_small, V3.plus, V3.enc, V3.cs, w0, w1, boxVerts]
        exact ⟨1, by simp [go_sem, V3.cs, or_imp, forall_and, V.cl, V.cl1, V.cl0]⟩
      · simp [go_sem, vcs, w0, w1, wx, wy, wz]
        refine ACall_is (hp p ⟨s.x, 0, 0⟩) ?_
        simp (disch := omega) [go_sem, wrap64_small, V3.plus, V3.enc, V3.cs, w0, w1, boxVerts]
        exact ⟨2, by simp [go_sem, V3.cs, or_imp, forall_and, V.cl, V.cl1, V.cl0]⟩
      · simp [go_sem, vcs, w0, w1, wx, wy, wz]
        refine ACall_is (hp p ⟨0, s.y, 0⟩) ?_
        simp (disch := omega) [go_sem, wrap64_small, V3.plus, V3.enc, V3.cs, w0, w1, boxVerts]
        exact ⟨3, by simp [go_sem, V3.cs, or_imp, forall_and, V.cl, V.cl1, V.cl0]⟩
      · simp [go_sem, vcs, w0, w1, wx, wy, wz]
        refine ACall_is (hp p ⟨s.x, s.y, 0⟩) ?_
        simp (disch := omega) [go_sem, wrap64_small, V3.plus, V3.enc, V3.cs, w0, w1, boxVerts]
        exact ⟨4, by simp [go_sem, V3.cs, or_imp, forall_and, V.cl, V.cl1, V.cl0]⟩
      · simp [go_sem, vcs, w0, w1, wx, wy, wz]
        refine ACall_is (hp p ⟨0, 0, s.z⟩) ?_
        simp (disch := omega) [go_sem, wrap64_small, V3.plus, V3.enc, V3.cs, w0, w1, boxVerts]
        exact ⟨5, by simp [go_sem, V3.cs, or_imp, forall_and, V.cl, V.cl1, V.cl0]⟩
      · simp [go_sem, vcs, w0, w1, wx, wy, wz]
        refine ACall_is (hp p ⟨s.x, 0, s.z⟩) ?_
        simp (disch := omega) [go_sem, wrap64_small, V3.plus, V3.enc, V3.cs, w0, w1, boxVerts]
        exact ⟨6, by simp [go_sem, V3.cs, or_imp, forall_and, V.cl, V.cl1, V.cl0]⟩
      · simp [go_sem, vcs, w0, w1, wx, wy, wz]
        refine ACall_is (hp p ⟨0, s.y, s.z⟩) ?_
        simp (disch := omega) [go_sem, wrap64_small, V3.plus, V3.enc, V3.cs, w0, w1, boxVerts]
        exact ⟨7, by simp [go_sem, V3.cs, or_imp, forall_and, V.cl, V.cl1, V.cl0]⟩
      · simp [go_sem, vcs, w0, w1, wx, wy, wz]
        refine ACall_is (hp p ⟨s.x, s.y, s.z⟩) ?_
        simp (disch := omega) [go_sem, wrap64_small, V3.plus, V3.enc, V3.cs, w0, w1, boxVerts]
        exact ⟨8, by simp [go_sem, V3.cs, or_imp, forall_and, V.cl, V.cl1, V.cl0]⟩
end
end Go.Abs
set_option linter.unusedVariables false
set_option linter.unusedSimpArgs false
namespace Go.Abs

theorem entsOf_mp (h : List O) (id : Nat) : entsOf h (.mp id) = match h[id]? with | some (.mp es) => some es | _ => none := _root_.id rfl
attribute [go_sem] entsOf_mp V.isT

def asE (p : P2 × Int) : V × V := (p.1.enc, .i .i64 p.2)
def fnd (e : P2) : List (P2 × Int) → Option (Nat × Int)
  | [] => none
  | (k, n) :: r => if e = k then some (0, n) else (fnd e r).map fun p => (p.1 + 1, p.2)

theorem veq2 (a b : P2) : veqL [1, 1] a.enc.cells b.enc.cells = some (decide (a = b)) := by
  cases a; cases b
  simp [veqL, P2.enc, P2.cs, V.cells, sceq, P2.mk.injEq]
  rw [Bool.eq_iff_iff]; simp

theorem findE_as (e : P2) : ∀ L : List (P2 × Int), findE [1, 1] e.enc (L.map asE) = some ((fnd e L).map fun p => (p.1, .i .i64 p.2))
  | [] => rfl
  | (k, n) :: r => by
    simp only [List.map_cons, asE, findE, fnd]
    rw [if_pos (by rfl), veq2]
    by_cases h : e = k
    · simp [h]
    · simp only [h, decide_false, if_false]
      have := findE_as e r
      rw [this]
      cases fnd e r <;> rfl

theorem fnd_none {e : P2} : ∀ {L : List (P2 × Int)}, fnd e L = none ↔ ∀ p ∈ L, p.1 ≠ e
  | [] => by simp [fnd]
  | (k, n) :: r => by
    simp only [fnd]
    by_cases h : e = k
    · simp [h]
    · have h' : ¬ k = e := fun hh => h hh.symm
      rw [if_neg h, Option.map_eq_none_iff, fnd_none (L := r)]
      simp [h']
theorem fnd_app {e : P2} {n : Int} : ∀ {L : List (P2 × Int)}, fnd e L = none → fnd e (L ++ [(e, n)]) = some (L.length, n)
  | [], _ => by simp [fnd]
  | (k, m) :: r, h => by
    simp only [fnd] at h
    by_cases hk : e = k
    · simp [hk] at h
    · simp only [hk, if_false, Option.map_eq_none_iff] at h
      simp [fnd, hk, fnd_app h]
theorem fnd_set {e : P2} {i : Nat} {n n' : Int} : ∀ {L : List (P2 × Int)}, fnd e L = some (i, n) → L[i]? = some (e, n) ∧ fnd e (L.set i (e, n')) = some (i, n')
  | [], h => by simp [fnd] at h
  | (k, m) :: r, h => by
    simp only [fnd] at h
    by_cases hk : e = k
    · simp [hk] at h; obtain ⟨rfl, rfl⟩ := h; simp [fnd, hk]
    · simp only [hk, if_false, Option.map_eq_some_iff, Prod.mk.injEq] at h
      obtain ⟨⟨j, n1⟩, hj, rfl, rfl⟩ := h
      have := fnd_set (n' := n') hj
      simp [fnd, hk, this.1, this.2]
end Go.Abs
set_option linter.unusedVariables false
set_option linter.unusedSimpArgs false
namespace Go.Abs

def edges3 (t : T3) : List P2 := [⟨t.a, t.b⟩, ⟨t.b, t.c⟩, ⟨t.c, t.a⟩]
def edgesK (t : T3) (k : Nat) : List P2 := ((edges3 t).take k).filter fun e => decide (e.x ≠ e.y)
def edgesOf (t : T3) : List P2 := edgesK t 3
def EdgesC (P : Program) (f : FuncId) : Prop := ∀ t : T3, CallIs P f [t.enc] (psV (edgesOf t))

theorem p2_isD (p : P2) : (∀ y ∈ p.cs, y.isD = true) = True := by simp [P2.cs, V.isD]
theorem p2_cl (t : P2) (n : Nat) : (∀ y ∈ t.cs, y.cl n = true) = True := by simp [P2.cs, V.cl, V.cl1, V.cl0]
theorem edgesK_0 (t : T3) : edgesK t 0 = [] := rfl
theorem filt1 (x y : Int) (l : List P2) : (l ++ [(⟨x, y⟩ : P2)]).filter (fun e => decide (e.x ≠ e.y)) = if x = y then l.filter (fun e => decide (e.x ≠ e.y)) else l.filter (fun e => decide (e.x ≠ e.y)) ++ [⟨x, y⟩] := by
  rw [List.filter_append]
  by_cases h : x = y <;> simp [h]
theorem edgesK_1 (t : T3) : edgesK t 1 = if t.a = t.b then edgesK t 0 else edgesK t 0 ++ [⟨t.a, t.b⟩] := filt1 t.a t.b []
theorem edgesK_2 (t : T3) : edgesK t 2 = if t.b = t.c then edgesK t 1 else edgesK t 1 ++ [⟨t.b, t.c⟩] := filt1 t.b t.c [⟨t.a, t.b⟩]
theorem edgesK_3 (t : T3) : edgesK t 3 = if t.c = t.a then edgesK t 2 else edgesK t 2 ++ [⟨t.c, t.a⟩] := filt1 t.c t.a [⟨t.a, t.b⟩, ⟨t.b, t.c⟩]
theorem edgesK_le (t : T3) (k : Nat) : (edgesK t k).length ≤ 3 := by
  refine Nat.le_trans (List.length_filter_le _ _) ?_
  simp [edges3]; omega

section
variable {P : Program} (hm : P.follows .mixedOrders = true)
include hm

set_option maxHeartbeats 4000000 in
theorem orient_edges_ok {f : FuncId} (hf : FnOk P f orient_edges.c orient_edges.r orient_edges.n) : EdgesC P f := by
  intro t
  refine PureC.is (pure_of hm hf (Nat.le_of_ble_eq_true rfl) ?_) rfl
  unfold orient_edges.c
  simp [go_sem, T3.enc, T3.cs]
  have w1 : IntKind.i64.wrap 1 = 1 := rfl
  have w2 : IntKind.i64.wrap 2 = 2 := rfl
  have w3 : IntKind.i64.wrap 3 = 3 := rfl
  refine AS_loopG [.t 3 2] (α := Nat) (fun k => k ≤ 3)
    (fun k => ⟨[(3, .own 1 ((edgesK t k).length + 1) 0 (edgesK t k).length), (21, .a [.i .i64 t.a, .i .i64 t.b, .i .i64 t.b, .i .i64 t.c, .i .i64 t.c, .i .i64 t.a]), (22, .i .i64 k)],
      [.dead, .arr ((edgesK t k).length + 1) 2 ((edgesK t k).map P2.cs)]⟩)
    (fun k => 3 - k) 0 (by omega) ?_ ?_
  · simp [go_sem, edgesK_0]
  · intro k hk
    have hl := edgesK_le t k
    by_cases h3 : k = 3
    · subst h3
      simp [go_sem, orient_edges.r, psV, edgesOf, p2_isD]
    · have : k = 0 ∨ k = 1 ∨ k = 2 := by omega
      rcases this with rfl | rfl | rfl
      · have hs := edgesK_1 t
        generalize hE : edgesK t 0 = E0 at hs hl
        by_cases h : t.a = t.b
        · rw [if_pos h] at hs
          simp [go_sem, h, w1, w2, w3]
          exact ⟨1, by omega, by omega, by simp [hs], by simp [hs], by simp [p2_cl]⟩
        · rw [if_neg h] at hs
          simp [go_sem, h, w1, w2, w3]
          exact ⟨by omega, 1, by omega, by omega, by simp [hs], by simp [hs, pcs, or_imp, forall_and, V.cl, V.cl1, V.cl0]⟩
      · have hs := edgesK_2 t
        generalize hE : edgesK t 1 = E0 at hs hl
        by_cases h : t.b = t.c
        · rw [if_pos h] at hs
          simp [go_sem, h, w1, w2, w3]
          exact ⟨2, by omega, by omega, by simp [hs], by simp [hs], by simp [p2_cl]⟩
        · rw [if_neg h] at hs
          simp [go_sem, h, w1, w2, w3]
          exact ⟨by omega, 2, by omega, by omega, by simp [hs], by simp [hs, pcs, or_imp, forall_and, V.cl, V.cl1, V.cl0]⟩
      · have hs := edgesK_3 t
        generalize hE : edgesK t 2 = E0 at hs hl
        by_cases h : t.c = t.a
        · rw [if_pos h] at hs
          simp [go_sem, h, w1, w2, w3]
          exact ⟨3, by omega, by omega, by simp [hs], by simp [hs], by simp [p2_cl]⟩
        · rw [if_neg h] at hs
          simp [go_sem, h, w1, w2, w3]
          exact ⟨by omega, 3, by omega, by omega, by simp [hs], by simp [hs, pcs, or_imp, forall_and, V.cl, V.cl1, V.cl0]⟩
end
end Go.Abs
set_option linter.unusedVariables false
set_option linter.unusedSimpArgs false
namespace Go.Abs

def alluses (l : List T3) : List P2 := l.flatMap edgesOf
def cohB (l : List T3) : Bool := decide (alluses l).Nodup
def CohC (P : Program) (f : FuncId) : Prop := ∀ l : List T3, l.length ≤ 1000000 → CallIs P f [tsV l] (.b (cohB l))

def asV (p : P2 × Int) : V × V := (.a [.i .i64 p.1.x, .i .i64 p.1.y], .i .i64 p.2)
theorem findE_asV (e : P2) (L : List (P2 × Int)) : findE [1, 1] (.a [.i .i64 e.x, .i .i64 e.y]) (L.map asV) = some ((fnd e L).map fun p => (p.1, .i .i64 p.2)) := findE_as e L
def ones (S : List P2) : List (P2 × Int) := S.map fun e => (e, 1)
theorem fnd_ones_none {e : P2} {S : List P2} (h : e ∉ S) : fnd e (ones S) = none := by
  rw [fnd_none]
  intro p hp
  simp only [ones, List.mem_map] at hp
  obtain ⟨a, ha, rfl⟩ := hp
  rintro rfl
  exact h ha
theorem fnd_ones_some {e : P2} : ∀ {S : List P2}, e ∈ S → ∃ i, fnd e (ones S) = some (i, 1)
  | [], h => by simp at h
  | a :: S, h => by
    by_cases ha : e = a
    · exact ⟨0, by simp [ones, fnd, ha]⟩
    · have : e ∈ S := by simpa [ha] using h
      obtain ⟨i, hi⟩ := fnd_ones_some this
      exact ⟨i + 1, by simp only [ones, List.map_cons, fnd, if_neg ha]; rw [show S.map (fun e => (e, (1 : Int))) = ones S from rfl, hi]; rfl⟩
theorem ones_app (S : List P2) (e : P2) : ones (S ++ [e]) = ones S ++ [(e, 1)] := by simp [ones]
theorem asV_cl (L : List (P2 × Int)) (n : Nat) : ∀ (a b : V) (x : P2) (y : Int), (x, y) ∈ L → asV (x, y) = (a, b) → V.cl n a = true ∧ V.cl n b = true := by
  rintro _ _ x y _ h
  simp only [asV, Prod.mk.injEq] at h
  obtain ⟨rfl, rfl⟩ := h
  exact ⟨rfl, rfl⟩
theorem alluses_succ {l : List T3} {k : Nat} {t : T3} (h : l[k]? = some t) : alluses (l.take (k + 1)) = alluses (l.take k) ++ edgesOf t := by
  simp [alluses, List.take_add_one, h]
theorem alluses_len (l : List T3) (k : Nat) : (alluses (l.take k)).length ≤ 3 * k := by
  induction k with
  | zero => simp [alluses]
  | succ k ih =>
    by_cases hk : k < l.length
    · rw [alluses_succ (List.getElem?_eq_getElem hk), List.length_append]
      have : (edgesOf l[k]).length ≤ 3 := edgesK_le _ 3
      omega
    · rw [List.take_of_length_le (by omega)] at ih ⊢; omega
theorem coh_pre {l : List T3} {k : Nat} {S : List P2} (h : S <+: edgesOf ((l[k]?).getD ⟨0, 0, 0⟩)) (hk : k < l.length) : alluses (l.take k) ++ S <+: alluses l := by
  have h1 : l[k]? = some l[k] := List.getElem?_eq_getElem hk
  rw [h1] at h
  obtain ⟨r, hr⟩ := h
  have h2 : alluses l = alluses (l.take (k + 1)) ++ alluses (l.drop (k + 1)) := by
    rw [alluses, alluses, alluses, ← List.flatMap_append, List.take_append_drop]
  rw [h2, alluses_succ h1, show edgesOf l[k] = S ++ r from hr.symm]
  exact ⟨r ++ alluses (l.drop (k + 1)), by simp⟩

section
variable {P : Program} (hm : P.follows .mixedOrders = true)
include hm

set_option maxHeartbeats 4000000 in
theorem orient_coherent_ok {f fe : FuncId} (hf : FnOk P f (orient_coherent.c fe) orient_coherent.r orient_coherent.n) (he : EdgesC P fe) : CohC P f := by
  intro l hl
  refine PureC.is (pure_of hm hf (Nat.le_of_ble_eq_true rfl) ?_) rfl
  unfold orient_coherent.c
  simp [go_sem, tsV]
  refine AS_loop (α := Nat) (fun k => k ≤ l.length ∧ (alluses (l.take k)).Nodup)
    (fun k => ⟨[(3, .mp 0), (9, tsV l), (10, .i .i64 l.length), (11, .i .i64 k)], [.mp ((ones (alluses (l.take k))).map asV)]⟩)
    (fun k => l.length - k) 0 ⟨by omega, by simp [alluses]⟩ ?_ ?_
  · simp [go_sem, tsV, alluses, ones]
  · rintro k ⟨hk, hnd⟩
    by_cases hkl : k = l.length
    · subst hkl
      simp [go_sem, tsV, orient_coherent.r]
      rw [List.take_length] at hnd
      simp [cohB, hnd]
    · have hlt : k < l.length := by omega
      have hp : l[k]? = some l[k] := List.getElem?_eq_getElem hlt
      generalize l[k] = t at hp
      obtain ⟨_, hp'⟩ := List.getElem?_eq_some_iff.1 hp
      simp [go_sem, tsV, hlt, hp', tcs]
      refine ACall_is (he t) ?_
      have hlen : (edgesOf t).length ≤ 3 := edgesK_le t 3
      simp [go_sem, psV]
      refine AS_loop (α := Nat) (fun j => j ≤ (edgesOf t).length ∧ (alluses (l.take k) ++ (edgesOf t).take j).Nodup)
        (fun j => ⟨[(3, .mp 0), (9, tsV l), (10, .i .i64 l.length), (11, .i .i64 k), (16, psV (edgesOf t)), (17, .i .i64 (edgesOf t).length), (18, .i .i64 j)], [.mp ((ones (alluses (l.take k) ++ (edgesOf t).take j)).map asV)]⟩)
        (fun j => (edgesOf t).length - j) 0 ⟨by omega, by simpa using hnd⟩ ?_ ?_
      · simp [go_sem, tsV, psV]
        exact asV_cl _ 1
      · rintro j ⟨hj, hnd2⟩
        by_cases hjl : j = (edgesOf t).length
        · subst hjl
          simp (disch := omega) [go_sem, tsV, psV, wrap64_small]
          rw [List.take_length] at hnd2
          exact ⟨k + 1, ⟨by omega, by rw [alluses_succ hp]; exact hnd2⟩, by omega, by omega, by rw [alluses_succ hp], asV_cl _ 1⟩
        · have hjlt : j < (edgesOf t).length := by omega
          have hq : (edgesOf t)[j]? = some (edgesOf t)[j] := List.getElem?_eq_getElem hjlt
          have htk : (edgesOf t).take (j + 1) = (edgesOf t).take j ++ [(edgesOf t)[j]] := by rw [List.take_add_one, hq]; rfl
          generalize (edgesOf t)[j] = e at hq htk
          obtain ⟨_, hq'⟩ := List.getElem?_eq_some_iff.1 hq
          have hpre := coh_pre (l := l) (k := k) (S := (edgesOf t).take (j + 1)) (by rw [hp]; exact List.take_prefix _ _) hlt
          rw [htk, ← List.append_assoc] at hpre
          generalize hS : alluses (l.take k) ++ (edgesOf t).take j = S at hnd2 hpre
          by_cases hmem : e ∈ S
          · obtain ⟨i, hi⟩ := fnd_ones_some hmem
            have h1 := findE_asV e (ones S)
            rw [hi] at h1
            simp only [Option.map_some] at h1
            have h3 : findE [1, 1] (V.a [V.i IntKind.i64 e.x, V.i IntKind.i64 e.y]) ((List.map asV (ones S)).set i (V.a [V.i .i64 e.x, V.i .i64 e.y], V.i .i64 2)) = some (some (i, .i .i64 2)) := by
              have := findE_asV e ((ones S).set i (e, 2))
              rw [(fnd_set (n' := 2) hi).2, List.map_set] at this
              exact this
            have hil : i < (ones S).length := (List.getElem?_eq_some_iff.1 (fnd_set (n' := 2) hi).1).1
            have hil' : i < (List.map asV (ones S)).length := by simpa using hil
            have w2 : IntKind.i64.wrap 2 = 2 := rfl
            simp [go_sem, psV, hjlt, hq', pcs, h1, h3, w2, List.getElem?_set_self hil', List.set_set, orient_coherent.r]
            unfold cohB
            rw [decide_eq_false]
            intro hall
            have := hall.sublist hpre.sublist
            rw [List.nodup_append] at this
            exact this.2.2 e hmem e (by simp) rfl
          · have h1 := findE_asV e (ones S)
            rw [fnd_ones_none hmem] at h1
            simp only [Option.map_none] at h1
            have w1 : IntKind.i64.wrap 1 = 1 := rfl
            have h3 : findE [1, 1] (V.a [V.i IntKind.i64 e.x, V.i IntKind.i64 e.y]) (List.map asV (ones S) ++ [(V.a [V.i .i64 e.x, V.i .i64 e.y], V.i .i64 1)]) = some (some ((ones S).length, .i .i64 1)) := by
              have := findE_asV e (ones S ++ [(e, 1)])
              rw [fnd_app (fnd_ones_none hmem), List.map_append] at this
              exact this
            simp [go_sem, psV, hjlt, hq', pcs, h1, h3, w1]
            have hS1 : alluses (l.take k) ++ (edgesOf t).take (j + 1) = S ++ [e] := by rw [htk, ← List.append_assoc, hS]
            refine ⟨j + 1, ⟨by omega, ?_⟩, by omega, ⟨.inr rfl, wrap64_small (by omega) (by omega)⟩, ?_, asV_cl _ 1⟩
            · rw [hS1, List.nodup_append]
              exact ⟨hnd2, by simp, fun a ha b hb => by simp at hb; subst hb; rintro rfl; exact hmem ha⟩
            · rw [hS1, ones_app, List.map_append]; rfl
end
end Go.Abs
