/- Part of the library on which the proof stands: an abstract machine, its values and its soundness against the model; or what functions of the program do to such values. -/
import Derived.Test.YtoppidobgkgiiaaGoShpU
import Derived.Test.YtoppidobgkgiiaaGoRevC
set_option linter.unusedVariables false
set_option linter.unusedSimpArgs false
namespace Go.Abs

def law13_ShapesBack.c (law13_heavy mesh_Check law13_awake shapes_Move mesh_Same topo_Closed mesh_Volume6 shapes_Turn shapes_Mirror : FuncId) : C :=
 (.seq
  (.reg [
    ⟨(some 3), none, .box (.t 0)⟩,
    ⟨(some 4), none, .box (.t 1)⟩,
    ⟨(some 6), none, .mv (.c (.b false))⟩])
  (.seq
   (.seq
    (.reg [
      ⟨(some 19), none, .ld (some 2) (.t 3)⟩,
      ⟨(some 20), none, .call law13_heavy [(.t 19)]⟩,
      ⟨(some 21), none, .mv (.t 20)⟩,
      ⟨(some 22), (some (21, false)), .ld (some 2) (.t 3)⟩,
      ⟨(some 23), (some (21, false)), .call mesh_Check [(.t 22)]⟩,
      ⟨(some 24), (some (21, false)), .bin .neq (.t 23) (.c (.i .i64 0))⟩,
      ⟨(some 25), none, .pick (.t 21) (.c (.b true)) (.t 24)⟩,
      ⟨(some 26), none, .mv (.t 25)⟩,
      ⟨(some 27), (some (26, false)), .mv (.t 2)⟩,
      ⟨(some 28), (some (26, false)), .bin .lss (.t 27) (.c (.i .i64 (-1099511627776)))⟩,
      ⟨(some 29), none, .pick (.t 26) (.c (.b true)) (.t 28)⟩,
      ⟨(some 30), none, .mv (.t 29)⟩,
      ⟨(some 31), (some (30, false)), .mv (.t 2)⟩,
      ⟨(some 32), (some (30, false)), .bin .gtr (.t 31) (.c (.i .i64 1099511627776))⟩,
      ⟨(some 33), none, .pick (.t 30) (.c (.b true)) (.t 32)⟩])
    (.ite (.t 33)
     (.seq
      (.reg [
        ⟨(some 34), none, .call law13_awake []⟩,
        ⟨(some 6), none, .mv (.t 34)⟩])
      .ret)
     .skip))
   (.seq
    (.reg [
      ⟨(some 36), none, .ld (some 2) (.t 3)⟩,
      ⟨(some 37), none, .ld (some 3) (.t 4)⟩,
      ⟨(some 38), none, .call shapes_Move [(.t 36), (.t 37)]⟩,
      ⟨(some 35), none, .mv (.t 38)⟩,
      ⟨(some 39), none, .ext (.t 35) 0⟩,
      ⟨(some 40), none, .ext (.t 35) 1⟩,
      ⟨(some 7), none, .alloc [.nil, .nil]⟩,
      ⟨none, none, .st 2 (.t 7) (.t 39)⟩,
      ⟨(some 8), none, .mv (.t 40)⟩])
    (.seq
     (.seq
      (.reg [
        ⟨(some 41), none, .mv (.t 8)⟩,
        ⟨(some 42), none, .bin .eql (.t 41) (.c (.i .i64 0))⟩])
      (.ite (.t 42)
       (.seq
        (.reg [
          ⟨(some 44), none, .ld (some 2) (.t 7)⟩,
          ⟨(some 45), none, .fa 0 (.t 4)⟩,
          ⟨(some 46), none, .ld none (.t 45)⟩,
          ⟨(some 47), none, .un .neg (.t 46)⟩,
          ⟨(some 48), none, .fa 1 (.t 4)⟩,
          ⟨(some 49), none, .ld none (.t 48)⟩,
          ⟨(some 50), none, .un .neg (.t 49)⟩,
          ⟨(some 51), none, .fa 2 (.t 4)⟩,
          ⟨(some 52), none, .ld none (.t 51)⟩,
          ⟨(some 53), none, .un .neg (.t 52)⟩,
          ⟨(some 54), none, .build [(.i .i64 0), (.i .i64 0), (.i .i64 0)] [(0, 1, (.t 47)), (1, 1, (.t 50)), (2, 1, (.t 53))]⟩,
          ⟨(some 55), none, .call shapes_Move [(.t 44), (.t 54)]⟩,
          ⟨(some 43), none, .mv (.t 55)⟩,
          ⟨(some 56), none, .ext (.t 43) 0⟩,
          ⟨(some 57), none, .ext (.t 43) 1⟩,
          ⟨(some 9), none, .alloc [.nil, .nil]⟩,
          ⟨none, none, .st 2 (.t 9) (.t 56)⟩,
          ⟨(some 10), none, .mv (.t 57)⟩])
        (.seq
         (.drw [
           ⟨(some 58), none, .mv (.t 10)⟩,
           ⟨(some 59), none, .bin .neq (.t 58) (.c (.i .i64 0))⟩,
           ⟨(some 60), none, .mv (.t 59)⟩,
           ⟨(some 61), (some (60, false)), .ld (some 2) (.t 9)⟩,
           ⟨(some 62), (some (60, false)), .ld (some 2) (.t 3)⟩,
           ⟨(some 63), (some (60, false)), .call mesh_Same [(.t 61), (.t 62)]⟩,
           ⟨(some 64), (some (60, false)), .un .not (.t 63)⟩,
           ⟨(some 65), none, .pick (.t 60) (.c (.b true)) (.t 64)⟩,
           ⟨(some 66), none, .mv (.t 65)⟩,
           ⟨(some 67), (some (66, false)), .ld (some 2) (.t 3)⟩,
           ⟨(some 68), (some (66, false)), .call topo_Closed [(.t 67)]⟩,
           ⟨(some 69), (some (66, false)), .mv (.t 68)⟩,
           ⟨(some 70), (some (69, true)), .ld (some 2) (.t 7)⟩,
           ⟨(some 71), (some (69, true)), .call mesh_Volume6 [(.t 70)]⟩,
           ⟨(some 72), (some (69, true)), .ld (some 2) (.t 3)⟩,
           ⟨(some 73), (some (69, true)), .call mesh_Volume6 [(.t 72)]⟩,
           ⟨(some 74), (some (69, true)), .bin .neq (.t 71) (.t 73)⟩,
           ⟨(some 75), (some (66, false)), .pick (.t 69) (.t 74) (.c (.b false))⟩,
           ⟨(some 76), none, .pick (.t 66) (.c (.b true)) (.t 75)⟩] [[], [], [], [], [], [], [], [], [], [], [], [], [], [], [13], [], [], [], []])
         (.ite (.t 76)
          (.seq
           (.reg [
             ⟨(some 6), none, .mv (.c (.b false))⟩])
           .ret)
          .skip)))
       .skip))
     (.seq
      (.reg [
        ⟨(some 78), none, .ld (some 2) (.t 3)⟩,
        ⟨(some 79), none, .mv (.t 2)⟩,
        ⟨(some 80), none, .call shapes_Turn [(.t 78), (.t 79)]⟩,
        ⟨(some 77), none, .mv (.t 80)⟩,
        ⟨(some 81), none, .ext (.t 77) 0⟩,
        ⟨(some 82), none, .ext (.t 77) 1⟩,
        ⟨(some 11), none, .alloc [.nil, .nil]⟩,
        ⟨none, none, .st 2 (.t 11) (.t 81)⟩,
        ⟨(some 12), none, .mv (.t 82)⟩])
      (.seq
       (.reg [
         ⟨(some 84), none, .ld (some 2) (.t 11)⟩,
         ⟨(some 85), none, .mv (.t 2)⟩,
         ⟨(some 86), none, .un .neg (.t 85)⟩,
         ⟨(some 87), none, .call shapes_Turn [(.t 84), (.t 86)]⟩,
         ⟨(some 83), none, .mv (.t 87)⟩,
         ⟨(some 88), none, .ext (.t 83) 0⟩,
         ⟨(some 89), none, .ext (.t 83) 1⟩,
         ⟨(some 13), none, .alloc [.nil, .nil]⟩,
         ⟨none, none, .st 2 (.t 13) (.t 88)⟩,
         ⟨(some 14), none, .mv (.t 89)⟩])
       (.seq
        (.reg [
          ⟨(some 91), none, .ld (some 2) (.t 3)⟩,
          ⟨(some 92), none, .call shapes_Mirror [(.t 91)]⟩,
          ⟨(some 90), none, .mv (.t 92)⟩,
          ⟨(some 93), none, .ext (.t 90) 0⟩,
          ⟨(some 94), none, .ext (.t 90) 1⟩,
          ⟨(some 15), none, .alloc [.nil, .nil]⟩,
          ⟨none, none, .st 2 (.t 15) (.t 93)⟩,
          ⟨(some 16), none, .mv (.t 94)⟩])
        (.seq
         (.reg [
           ⟨(some 96), none, .ld (some 2) (.t 15)⟩,
           ⟨(some 97), none, .call shapes_Mirror [(.t 96)]⟩,
           ⟨(some 95), none, .mv (.t 97)⟩,
           ⟨(some 98), none, .ext (.t 95) 0⟩,
           ⟨(some 99), none, .ext (.t 95) 1⟩,
           ⟨(some 17), none, .alloc [.nil, .nil]⟩,
           ⟨none, none, .st 2 (.t 17) (.t 98)⟩,
           ⟨(some 18), none, .mv (.t 99)⟩])
         (.seq
          (.seq
           (.reg [
             ⟨(some 100), none, .mv (.t 12)⟩,
             ⟨(some 101), none, .bin .neq (.t 100) (.c (.i .i64 0))⟩,
             ⟨(some 102), none, .mv (.t 101)⟩,
             ⟨(some 103), (some (102, false)), .mv (.t 14)⟩,
             ⟨(some 104), (some (102, false)), .bin .neq (.t 103) (.c (.i .i64 0))⟩,
             ⟨(some 105), none, .pick (.t 102) (.c (.b true)) (.t 104)⟩,
             ⟨(some 106), none, .mv (.t 105)⟩,
             ⟨(some 107), (some (106, false)), .mv (.t 16)⟩,
             ⟨(some 108), (some (106, false)), .bin .neq (.t 107) (.c (.i .i64 0))⟩,
             ⟨(some 109), none, .pick (.t 106) (.c (.b true)) (.t 108)⟩,
             ⟨(some 110), none, .mv (.t 109)⟩,
             ⟨(some 111), (some (110, false)), .mv (.t 18)⟩,
             ⟨(some 112), (some (110, false)), .bin .neq (.t 111) (.c (.i .i64 0))⟩,
             ⟨(some 113), none, .pick (.t 110) (.c (.b true)) (.t 112)⟩,
             ⟨(some 114), none, .mv (.t 113)⟩,
             ⟨(some 115), (some (114, false)), .ld (some 2) (.t 13)⟩,
             ⟨(some 116), (some (114, false)), .ld (some 2) (.t 3)⟩,
             ⟨(some 117), (some (114, false)), .call mesh_Same [(.t 115), (.t 116)]⟩,
             ⟨(some 118), (some (114, false)), .un .not (.t 117)⟩,
             ⟨(some 119), none, .pick (.t 114) (.c (.b true)) (.t 118)⟩,
             ⟨(some 120), none, .mv (.t 119)⟩,
             ⟨(some 121), (some (120, false)), .ld (some 2) (.t 17)⟩,
             ⟨(some 122), (some (120, false)), .ld (some 2) (.t 3)⟩,
             ⟨(some 123), (some (120, false)), .call mesh_Same [(.t 121), (.t 122)]⟩,
             ⟨(some 124), (some (120, false)), .un .not (.t 123)⟩,
             ⟨(some 125), none, .pick (.t 120) (.c (.b true)) (.t 124)⟩])
           (.ite (.t 125)
            (.seq
             (.reg [
               ⟨(some 6), none, .mv (.c (.b false))⟩])
             .ret)
            .skip))
          (.seq
           (.drw [
             ⟨(some 126), none, .ld (some 2) (.t 11)⟩,
             ⟨(some 127), none, .call mesh_Volume6 [(.t 126)]⟩,
             ⟨(some 128), none, .ld (some 2) (.t 3)⟩,
             ⟨(some 129), none, .call mesh_Volume6 [(.t 128)]⟩,
             ⟨(some 130), none, .bin .eql (.t 127) (.t 129)⟩,
             ⟨(some 131), none, .mv (.t 130)⟩,
             ⟨(some 132), (some (131, true)), .ld (some 2) (.t 15)⟩,
             ⟨(some 133), (some (131, true)), .call mesh_Volume6 [(.t 132)]⟩,
             ⟨(some 134), (some (131, true)), .ld (some 2) (.t 3)⟩,
             ⟨(some 135), (some (131, true)), .call mesh_Volume6 [(.t 134)]⟩,
             ⟨(some 136), (some (131, true)), .bin .eql (.t 133) (.t 135)⟩,
             ⟨(some 137), none, .pick (.t 131) (.t 136) (.c (.b false))⟩,
             ⟨(some 138), none, .mv (.t 137)⟩,
             ⟨(some 139), (some (138, true)), .call law13_awake []⟩,
             ⟨(some 140), none, .pick (.t 138) (.t 139) (.c (.b false))⟩,
             ⟨(some 6), none, .mv (.t 140)⟩] [[], [], [1], [], [], [], [], [], [7], [], [], [], [], [], [], []])
           .ret))))))))))
def law13_ShapesBack.r : List Rr := [.tmp 6]
abbrev law13_ShapesBack.n : Nat := 141
end Go.Abs
set_option linter.unusedVariables false
set_option linter.unusedSimpArgs false
namespace Go.Abs

def crs (b c : V3) : V3 := ⟨b.y * c.z - b.z * c.y, b.z * c.x - b.x * c.z, b.x * c.y - b.y * c.x⟩
def dot3 (a b : V3) : Int := a.x * b.x + a.y * b.y + a.z * b.z
def det3 (a b c : V3) : Int := dot3 a (crs b c)
def vAt (vs : List V3) (i : Int) : V3 := (vs[i.toNat]?).getD ⟨0, 0, 0⟩
def volT (vs : List V3) (t : T3) : Int := det3 (vAt vs t.a) (vAt vs t.b) (vAt vs t.c)
def volL (vs : List V3) (ts : List T3) : Int := (ts.map (volT vs)).sum
def Mesh.vol6 (m : Mesh) : Int := if m.check = 0 then volL m.verts m.tris else 0
def VolC (P : Program) (f : FuncId) : Prop := ∀ m : Mesh, CallIs P f [m.enc] (.i .i64 m.vol6)
def DetC (P : Program) (f : FuncId) : Prop := ∀ a b c : V3, a.valid = true → b.valid = true → c.valid = true → CallIs P f [a.enc, b.enc, c.enc] (.i .i64 (det3 a b c))

theorem det3_swap (a b c : V3) : det3 a c b = - det3 a b c := by
  unfold det3 dot3 crs
  grind
theorem volT_rev (vs : List V3) (t : T3) : volT vs t.rev = - volT vs t := det3_swap _ _ _
theorem volL_nil (vs : List V3) : volL vs [] = 0 := rfl
theorem volL_cons (vs : List V3) (t : T3) (ts : List T3) : volL vs (t :: ts) = volT vs t + volL vs ts := by simp [volL]
theorem volL_app (vs : List V3) (a b : List T3) : volL vs (a ++ b) = volL vs a + volL vs b := by
  induction a with
  | nil => simp [volL_nil]
  | cons t a ih => rw [List.cons_append, volL_cons, volL_cons, ih]; omega
theorem volL_rev (vs : List V3) (ts : List T3) : volL vs (ts.map T3.rev) = - volL vs ts := by
  induction ts with
  | nil => rfl
  | cons t ts ih => rw [List.map_cons, volL_cons, volL_cons, ih, volT_rev]; omega

theorem mulB {x y A B : Int} (h1 : -A ≤ x) (h2 : x ≤ A) (h3 : -B ≤ y) (h4 : y ≤ B) : -(A * B) ≤ x * y ∧ x * y ≤ A * B := by
  have hA : 0 ≤ A := by omega
  have hB : 0 ≤ B := by omega
  have a1 := Int.mul_nonneg (a := A - x) (b := B - y) (by omega) (by omega)
  have a2 := Int.mul_nonneg (a := A + x) (b := B + y) (by omega) (by omega)
  have a3 := Int.mul_nonneg (a := A - x) (b := B + y) (by omega) (by omega)
  have a4 := Int.mul_nonneg (a := A + x) (b := B - y) (by omega) (by omega)
  simp only [Int.mul_add, Int.add_mul, Int.mul_sub, Int.sub_mul] at a1 a2 a3 a4
  omega
theorem mul16 {x y : Int} (h1 : -65536 ≤ x) (h2 : x ≤ 65536) (h3 : -65536 ≤ y) (h4 : y ≤ 65536) : -4294967296 ≤ x * y ∧ x * y ≤ 4294967296 := mulB (A := 65536) (B := 65536) h1 h2 h3 h4
theorem crs_b {b c : V3} (hb : b.valid = true) (hc : c.valid = true) : -8589934592 ≤ (crs b c).x ∧ (crs b c).x ≤ 8589934592 ∧ -8589934592 ≤ (crs b c).y ∧ (crs b c).y ≤ 8589934592 ∧ -8589934592 ≤ (crs b c).z ∧ (crs b c).z ≤ 8589934592 := by
  obtain ⟨b1, b2, b3, b4, b5, b6⟩ := V3.valid_iff.1 hb
  obtain ⟨c1, c2, c3, c4, c5, c6⟩ := V3.valid_iff.1 hc
  have m1 := mul16 b3 b4 c5 c6
  have m2 := mul16 b5 b6 c3 c4
  have m3 := mul16 b5 b6 c1 c2
  have m4 := mul16 b1 b2 c5 c6
  have m5 := mul16 b1 b2 c3 c4
  have m6 := mul16 b3 b4 c1 c2
  unfold crs
  refine ⟨?_, ?_, ?_, ?_, ?_, ?_⟩ <;> simp only <;> omega
theorem det3_b {a b c : V3} (ha : a.valid = true) (hb : b.valid = true) (hc : c.valid = true) : -1688849860263936 ≤ det3 a b c ∧ det3 a b c ≤ 1688849860263936 := by
  obtain ⟨b1, b2, b3, b4, b5, b6⟩ := V3.valid_iff.1 ha
  obtain ⟨c1, c2, c3, c4, c5, c6⟩ := crs_b hb hc
  have m1 := mulB b1 b2 c1 c2
  have m2 := mulB b3 b4 c3 c4
  have m3 := mulB b5 b6 c5 c6
  unfold det3 dot3
  omega
theorem vAt_get {vs : List V3} {i : Int} (h0 : 0 ≤ i) (h : i < vs.length) : vs[i.toNat]? = some (vAt vs i) := by
  unfold vAt; rw [List.getElem?_eq_getElem (by omega)]; rfl
theorem vAt_valid {vs : List V3} (hv : vsOk vs = true) {i : Int} (h0 : 0 ≤ i) (h : i < vs.length) : (vAt vs i).valid = true := vsOk_get hv (vAt_get h0 h)
theorem volT_b {vs : List V3} (hv : vsOk vs = true) {t : T3} (ht : t.ok vs.length = true) : -1688849860263936 ≤ volT vs t ∧ volT vs t ≤ 1688849860263936 := by
  obtain ⟨a1, a2, b1, b2, c1, c2⟩ := T3.ok_iff.1 ht
  exact det3_b (vAt_valid hv a1 a2) (vAt_valid hv b1 b2) (vAt_valid hv c1 c2)
theorem volL_b {vs : List V3} (hv : vsOk vs = true) : ∀ {ts : List T3}, tsOk vs.length ts = true → -1688849860263936 * (ts.length : Int) ≤ volL vs ts ∧ volL vs ts ≤ 1688849860263936 * (ts.length : Int)
  | [], _ => by simp [volL_nil]
  | t :: ts, h => by
    have h' : t.ok vs.length = true ∧ tsOk vs.length ts = true := by simpa [tsOk] using h
    have h1 := volT_b hv h'.1
    have h2 := volL_b hv h'.2
    rw [volL_cons, List.length_cons]
    omega
end Go.Abs
set_option linter.unusedVariables false
set_option linter.unusedSimpArgs false
namespace Go.Abs

def orient_edges.c : C :=
 (.seq
  (.reg [
    ⟨(some 1), none, .box (.t 0)⟩,
    ⟨(some 2), none, .mv (.c .nil)⟩])
  (.seq
   (.reg [
     ⟨(some 3), none, .mv (.c .nil)⟩])
   (.seq
    (.seq
     (.reg [
       ⟨(some 6), none, .fa 0 (.t 1)⟩,
       ⟨(some 7), none, .ld none (.t 6)⟩,
       ⟨(some 8), none, .fa 1 (.t 1)⟩,
       ⟨(some 9), none, .ld none (.t 8)⟩,
       ⟨(some 10), none, .build [(.i .i64 0), (.i .i64 0)] [(0, 1, (.t 7)), (1, 1, (.t 9))]⟩,
       ⟨(some 11), none, .fa 1 (.t 1)⟩,
       ⟨(some 12), none, .ld none (.t 11)⟩,
       ⟨(some 13), none, .fa 2 (.t 1)⟩,
       ⟨(some 14), none, .ld none (.t 13)⟩,
       ⟨(some 15), none, .build [(.i .i64 0), (.i .i64 0)] [(0, 1, (.t 12)), (1, 1, (.t 14))]⟩,
       ⟨(some 16), none, .fa 2 (.t 1)⟩,
       ⟨(some 17), none, .ld none (.t 16)⟩,
       ⟨(some 18), none, .fa 0 (.t 1)⟩,
       ⟨(some 19), none, .ld none (.t 18)⟩,
       ⟨(some 20), none, .build [(.i .i64 0), (.i .i64 0)] [(0, 1, (.t 17)), (1, 1, (.t 19))]⟩,
       ⟨(some 21), none, .build [(.i .i64 0), (.i .i64 0), (.i .i64 0), (.i .i64 0), (.i .i64 0), (.i .i64 0)] [(0, 2, (.t 10)), (2, 2, (.t 15)), (4, 2, (.t 20))]⟩,
       ⟨(some 22), none, .mv (.c (.i .i64 0))⟩])
     (.blk 0
      (.loop
       (.seq
        (.reg [
          ⟨(some 23), none, .bin .lss (.t 22) (.c (.i .i64 3))⟩])
        (.seq
         (.ite (.t 23)
          .skip
          (.exit 0))
         (.seq
          (.blk 1
           (.seq
            (.reg [
              ⟨(some 24), none, .ix 3 2 (some 2) (.t 21) (.t 22)⟩,
              ⟨(some 5), none, .alloc [(.i .i64 0), (.i .i64 0)]⟩,
              ⟨none, none, .st 2 (.t 5) (.t 24)⟩])
            (.seq
             (.reg [
               ⟨(some 25), none, .fa 0 (.t 5)⟩,
               ⟨(some 26), none, .ld none (.t 25)⟩,
               ⟨(some 27), none, .fa 1 (.t 5)⟩,
               ⟨(some 28), none, .ld none (.t 27)⟩,
               ⟨(some 29), none, .bin .neq (.t 26) (.t 28)⟩])
             (.ite (.t 29)
              (.reg [
                ⟨(some 30), none, .mv (.t 3)⟩,
                ⟨(some 31), none, .ld (some 2) (.t 5)⟩,
                ⟨(some 32), none, .bsi 2 1 [(.i .i64 0), (.i .i64 0)] [(0, (.t 31))]⟩,
                ⟨(some 33), none, .app 2 16 (.t 30) (.t 32)⟩,
                ⟨(some 3), none, .mv (.t 33)⟩])
              .skip))))
          (.reg [
            ⟨(some 34), none, .bin .add (.t 22) (.c (.i .i64 1))⟩,
            ⟨(some 22), none, .mv (.t 34)⟩])))))))
    (.seq
     (.reg [
       ⟨(some 35), none, .mv (.t 3)⟩,
       ⟨(some 2), none, .mv (.t 35)⟩])
     .ret))))
def orient_edges.r : List Rr := [.tmp 2]
abbrev orient_edges.n : Nat := 36
end Go.Abs
set_option linter.unusedVariables false
set_option linter.unusedSimpArgs false
namespace Go.Abs

theorem entsOf_mp (h : List O) (id : Nat) : entsOf h (.mp id) = match h[id]? with | some (.mp es) => some es | _ => none := _root_.id rfl
attribute [go_sem] entsOf_mp V.isT

def asE (p : P2 × Int) : V × V := (p.1.enc, .i .i64 p.2)
def fnd (e : P2) : List (P2 × Int) → Option (Nat × Int)
  | [] => none
  | (k, n) :: r => if e = k then some (0, n) else (fnd e r).map fun p => (p.1 + 1, p.2)

theorem veq2 (a b : P2) : veqL [1, 1] a.enc.cells b.enc.cells = some (decide (a = b)) := by
  cases a; cases b
  simp [veqL, P2.enc, P2.cs, V.cells, sceq, P2.mk.injEq]
  rw [Bool.eq_iff_iff]; simp

theorem findE_as (e : P2) : ∀ L : List (P2 × Int), findE [1, 1] e.enc (L.map asE) = some ((fnd e L).map fun p => (p.1, .i .i64 p.2))
  | [] => rfl
  | (k, n) :: r => by
    simp only [List.map_cons, asE, findE, fnd]
    rw [if_pos (by rfl), veq2]
    by_cases h : e = k
    · simp [h]
    · simp only [h, decide_false, if_false]
      have := findE_as e r
      rw [this]
      cases fnd e r <;> rfl

theorem fnd_none {e : P2} : ∀ {L : List (P2 × Int)}, fnd e L = none ↔ ∀ p ∈ L, p.1 ≠ e
  | [] => by simp [fnd]
  | (k, n) :: r => by
    simp only [fnd]
    by_cases h : e = k
    · simp [h]
    · have h' : ¬ k = e := fun hh => h hh.symm
      rw [if_neg h, Option.map_eq_none_iff, fnd_none (L := r)]
      simp [h']
theorem fnd_app {e : P2} {n : Int} : ∀ {L : List (P2 × Int)}, fnd e L = none → fnd e (L ++ [(e, n)]) = some (L.length, n)
  | [], _ => by simp [fnd]
  | (k, m) :: r, h => by
    simp only [fnd] at h
    by_cases hk : e = k
    · simp [hk] at h
    · simp only [hk, if_false, Option.map_eq_none_iff] at h
      simp [fnd, hk, fnd_app h]
theorem fnd_set {e : P2} {i : Nat} {n n' : Int} : ∀ {L : List (P2 × Int)}, fnd e L = some (i, n) → L[i]? = some (e, n) ∧ fnd e (L.set i (e, n')) = some (i, n')
  | [], h => by simp [fnd] at h
  | (k, m) :: r, h => by
    simp only [fnd] at h
    by_cases hk : e = k
    · simp [hk] at h; obtain ⟨rfl, rfl⟩ := h; simp [fnd, hk]
    · simp only [hk, if_false, Option.map_eq_some_iff, Prod.mk.injEq] at h
      obtain ⟨⟨j, n1⟩, hj, rfl, rfl⟩ := h
      have := fnd_set (n' := n') hj
      simp [fnd, hk, this.1, this.2]
end Go.Abs
set_option linter.unusedVariables false
set_option linter.unusedSimpArgs false
namespace Go.Abs

def edges3 (t : T3) : List P2 := [⟨t.a, t.b⟩, ⟨t.b, t.c⟩, ⟨t.c, t.a⟩]
def edgesK (t : T3) (k : Nat) : List P2 := ((edges3 t).take k).filter fun e => decide (e.x ≠ e.y)
def edgesOf (t : T3) : List P2 := edgesK t 3
def EdgesC (P : Program) (f : FuncId) : Prop := ∀ t : T3, CallIs P f [t.enc] (psV (edgesOf t))

theorem p2_isD (p : P2) : (∀ y ∈ p.cs, y.isD = true) = True := by simp [P2.cs, V.isD]
theorem p2_cl (t : P2) (n : Nat) : (∀ y ∈ t.cs, y.cl n = true) = True := by simp [P2.cs, V.cl, V.cl1, V.cl0]
theorem edgesK_0 (t : T3) : edgesK t 0 = [] := rfl
theorem filt1 (x y : Int) (l : List P2) : (l ++ [(⟨x, y⟩ : P2)]).filter (fun e => decide (e.x ≠ e.y)) = if x = y then l.filter (fun e => decide (e.x ≠ e.y)) else l.filter (fun e => decide (e.x ≠ e.y)) ++ [⟨x, y⟩] := by
  rw [List.filter_append]
  by_cases h : x = y <;> simp [h]
theorem edgesK_1 (t : T3) : edgesK t 1 = if t.a = t.b then edgesK t 0 else edgesK t 0 ++ [⟨t.a, t.b⟩] := filt1 t.a t.b []
theorem edgesK_2 (t : T3) : edgesK t 2 = if t.b = t.c then edgesK t 1 else edgesK t 1 ++ [⟨t.b, t.c⟩] := filt1 t.b t.c [⟨t.a, t.b⟩]
theorem edgesK_3 (t : T3) : edgesK t 3 = if t.c = t.a then edgesK t 2 else edgesK t 2 ++ [⟨t.c, t.a⟩] := filt1 t.c t.a [⟨t.a, t.b⟩, ⟨t.b, t.c⟩]
theorem edgesK_le (t : T3) (k : Nat) : (edgesK t k).length ≤ 3 := by
  refine Nat.le_trans (List.length_filter_le _ _) ?_
  simp [edges3]; omega

section
variable {P : Program} (hm : P.follows .mixedOrders = true)
include hm

set_option maxHeartbeats 4000000 in
theorem orient_edges_ok {f : FuncId} (hf : FnOk P f orient_edges.c orient_edges.r orient_edges.n) : EdgesC P f := by
  intro t
  refine PureC.is (pure_of hm hf (Nat.le_of_ble_eq_true rfl) ?_) rfl
  unfold orient_edges.c
  simp [go_sem, T3.enc, T3.cs]
  have w1 : IntKind.i64.wrap 1 = 1 := rfl
  have w2 : IntKind.i64.wrap 2 = 2 := rfl
  have w3 : IntKind.i64.wrap 3 = 3 := rfl
  refine AS_loopG [.t 3 2] (α := Nat) (fun k => k ≤ 3)
    (fun k => ⟨[(3, .own 1 ((edgesK t k).length + 1) 0 (edgesK t k).length), (21, .a [.i .i64 t.a, .i .i64 t.b, .i .i64 t.b, .i .i64 t.c, .i .i64 t.c, .i .i64 t.a]), (22, .i .i64 k)],
      [.dead, .arr ((edgesK t k).length + 1) 2 ((edgesK t k).map P2.cs)]⟩)
    (fun k => 3 - k) 0 (by omega) ?_ ?_
  · simp [go_sem, edgesK_0]
  · intro k hk
    have hl := edgesK_le t k
    by_cases h3 : k = 3
    · subst h3
      simp [go_sem, orient_edges.r, psV, edgesOf, p2_isD]
    · have : k = 0 ∨ k = 1 ∨ k = 2 := by omega
      rcases this with rfl | rfl | rfl
      · have hs := edgesK_1 t
        generalize hE : edgesK t 0 = E0 at hs hl
        by_cases h : t.a = t.b
        · rw [if_pos h] at hs
          simp [go_sem, h, w1, w2, w3]
          exact ⟨1, by omega, by omega, by simp [hs], by simp [hs], by simp [p2_cl]⟩
        · rw [if_neg h] at hs
          simp [go_sem, h, w1, w2, w3]
          exact ⟨by omega, 1, by omega, by omega, by simp [hs], by simp [hs, pcs, or_imp, forall_and, V.cl, V.cl1, V.cl0]⟩
      · have hs := edgesK_2 t
        generalize hE : edgesK t 1 = E0 at hs hl
        by_cases h : t.b = t.c
        · rw [if_pos h] at hs
          simp [go_sem, h, w1, w2, w3]
          exact ⟨2, by omega, by omega, by simp [hs], by simp [hs], by simp [p2_cl]⟩
        · rw [if_neg h] at hs
          simp [go_sem, h, w1, w2, w3]
          exact ⟨by omega, 2, by omega, by omega, by simp [hs], by simp [hs, pcs, or_imp, forall_and, V.cl, V.cl1, V.cl0]⟩
      · have hs := edgesK_3 t
        generalize hE : edgesK t 2 = E0 at hs hl
        by_cases h : t.c = t.a
        · rw [if_pos h] at hs
          simp [go_sem, h, w1, w2, w3]
          exact ⟨3, by omega, by omega, by simp [hs], by simp [hs], by simp [p2_cl]⟩
        · rw [if_neg h] at hs
          simp [go_sem, h, w1, w2, w3]
          exact ⟨by omega, 3, by omega, by omega, by simp [hs], by simp [hs, pcs, or_imp, forall_and, V.cl, V.cl1, V.cl0]⟩
end
end Go.Abs
set_option linter.unusedVariables false
set_option linter.unusedSimpArgs false
namespace Go.Abs

def alluses (l : List T3) : List P2 := l.flatMap edgesOf
def asV (p : P2 × Int) : V × V := (.a [.i .i64 p.1.x, .i .i64 p.1.y], .i .i64 p.2)
theorem findE_asV (e : P2) (L : List (P2 × Int)) : findE [1, 1] (.a [.i .i64 e.x, .i .i64 e.y]) (L.map asV) = some ((fnd e L).map fun p => (p.1, .i .i64 p.2)) := findE_as e L
theorem asV_cl (L : List (P2 × Int)) (n : Nat) : ∀ (a b : V) (x : P2) (y : Int), (x, y) ∈ L → asV (x, y) = (a, b) → V.cl n a = true ∧ V.cl n b = true := by
  rintro _ _ x y _ h
  simp only [asV, Prod.mk.injEq] at h
  obtain ⟨rfl, rfl⟩ := h
  exact ⟨rfl, rfl⟩
theorem alluses_succ {l : List T3} {k : Nat} {t : T3} (h : l[k]? = some t) : alluses (l.take (k + 1)) = alluses (l.take k) ++ edgesOf t := by
  simp [alluses, List.take_add_one, h]
theorem alluses_len (l : List T3) (k : Nat) : (alluses (l.take k)).length ≤ 3 * k := by
  induction k with
  | zero => simp [alluses]
  | succ k ih =>
    by_cases hk : k < l.length
    · rw [alluses_succ (List.getElem?_eq_getElem hk), List.length_append]
      have : (edgesOf l[k]).length ≤ 3 := edgesK_le _ 3
      omega
    · rw [List.take_of_length_le (by omega)] at ih ⊢; omega
section
variable {P : Program} (hm : P.follows .mixedOrders = true)
include hm

end
end Go.Abs
set_option linter.unusedVariables false
set_option linter.unusedSimpArgs false
namespace Go.Abs

def topo_counted.c (mesh_Check topo_edges : FuncId) : C :=
 (.seq
  (.reg [
    ⟨(some 1), none, .box (.t 0)⟩,
    ⟨(some 2), none, .mv (.c .mnil)⟩])
  (.seq
   (.reg [
     ⟨(some 8), none, .mkm none⟩,
     ⟨(some 3), none, .mv (.t 8)⟩])
   (.seq
    (.seq
     (.reg [
       ⟨(some 9), none, .ld (some 2) (.t 1)⟩,
       ⟨(some 10), none, .call mesh_Check [(.t 9)]⟩,
       ⟨(some 11), none, .bin .neq (.t 10) (.c (.i .i64 0))⟩])
     (.ite (.t 11)
      (.seq
       (.reg [
         ⟨(some 12), none, .mv (.t 3)⟩,
         ⟨(some 2), none, .mv (.t 12)⟩])
       .ret)
      .skip))
    (.seq
     (.seq
      (.reg [
        ⟨(some 13), none, .fa 1 (.t 1)⟩,
        ⟨(some 14), none, .ld none (.t 13)⟩,
        ⟨(some 15), none, .len 0 (.t 14)⟩,
        ⟨(some 16), none, .mv (.c (.i .i64 0))⟩])
      (.blk 0
       (.loop
        (.seq
         (.reg [
           ⟨(some 17), none, .bin .lss (.t 16) (.t 15)⟩])
         (.seq
          (.ite (.t 17)
           .skip
           (.exit 0))
          (.seq
           (.blk 1
            (.seq
             (.reg [
               ⟨(some 18), none, .ia 3 (.t 14) (.t 16)⟩,
               ⟨(some 19), none, .ld (some 3) (.t 18)⟩,
               ⟨(some 5), none, .alloc [(.i .i64 0), (.i .i64 0), (.i .i64 0)]⟩,
               ⟨none, none, .st 3 (.t 5) (.t 19)⟩])
             (.seq
              (.reg [
                ⟨(some 20), none, .ld (some 3) (.t 5)⟩,
                ⟨(some 21), none, .call topo_edges [(.t 20)]⟩,
                ⟨(some 22), none, .len 0 (.t 21)⟩,
                ⟨(some 23), none, .mv (.c (.i .i64 0))⟩])
              (.blk 2
               (.loop
                (.seq
                 (.reg [
                   ⟨(some 24), none, .bin .lss (.t 23) (.t 22)⟩])
                 (.seq
                  (.ite (.t 24)
                   .skip
                   (.exit 2))
                  (.seq
                   (.blk 3
                    (.seq
                     (.reg [
                       ⟨(some 25), none, .ia 2 (.t 21) (.t 23)⟩,
                       ⟨(some 26), none, .ld (some 2) (.t 25)⟩,
                       ⟨(some 7), none, .alloc [(.i .i64 0), (.i .i64 0)]⟩,
                       ⟨none, none, .st 2 (.t 7) (.t 26)⟩])
                     (.reg [
                       ⟨(some 27), none, .mv (.t 3)⟩,
                       ⟨(some 28), none, .ld (some 2) (.t 7)⟩,
                       ⟨none, none, .eqa [1, 1] false (.t 28) (.t 28)⟩,
                       ⟨(some 29), none, .lk [1, 1] (.i .i64 0) false (.t 27) (.t 28)⟩,
                       ⟨(some 30), none, .bin .add (.t 29) (.c (.i .i64 1))⟩,
                       ⟨(some 31), none, .ment [1, 1] (.i .i64 0) (.t 27) (.t 28)⟩,
                       ⟨(some 32), none, .ext (.t 31) 1⟩,
                       ⟨none, none, .est (.t 27) (.t 32) (.t 30)⟩])))
                   (.reg [
                     ⟨(some 33), none, .bin .add (.t 23) (.c (.i .i64 1))⟩,
                     ⟨(some 23), none, .mv (.t 33)⟩])))))))))
           (.reg [
             ⟨(some 34), none, .bin .add (.t 16) (.c (.i .i64 1))⟩,
             ⟨(some 16), none, .mv (.t 34)⟩])))))))
     (.seq
      (.reg [
        ⟨(some 35), none, .mv (.t 3)⟩,
        ⟨(some 2), none, .mv (.t 35)⟩])
      .ret)))))
def topo_counted.r : List Rr := [.tmp 2]
abbrev topo_counted.n : Nat := 36
def topo_reverse.c : C :=
 (.seq
  (.reg [
    ⟨(some 1), none, .box (.t 0)⟩,
    ⟨(some 2), none, .alloc [(.i .i64 0), (.i .i64 0)]⟩])
  (.seq
   (.reg [
     ⟨(some 3), none, .fa 1 (.t 1)⟩,
     ⟨(some 4), none, .ld none (.t 3)⟩,
     ⟨(some 5), none, .fa 0 (.t 1)⟩,
     ⟨(some 6), none, .ld none (.t 5)⟩,
     ⟨(some 7), none, .build [(.i .i64 0), (.i .i64 0)] [(0, 1, (.t 4)), (1, 1, (.t 6))]⟩,
     ⟨none, none, .st 2 (.t 2) (.t 7)⟩])
   .ret))
def topo_reverse.r : List Rr := [.cell 2 (some 2)]
abbrev topo_reverse.n : Nat := 8
def topo_edges.c : C :=
 (.seq
  (.reg [
    ⟨(some 1), none, .box (.t 0)⟩,
    ⟨(some 2), none, .mv (.c .nil)⟩])
  (.seq
   (.reg [
     ⟨(some 3), none, .mv (.c .nil)⟩])
   (.seq
    (.seq
     (.reg [
       ⟨(some 6), none, .fa 0 (.t 1)⟩,
       ⟨(some 7), none, .ld none (.t 6)⟩,
       ⟨(some 8), none, .fa 1 (.t 1)⟩,
       ⟨(some 9), none, .ld none (.t 8)⟩,
       ⟨(some 10), none, .build [(.i .i64 0), (.i .i64 0)] [(0, 1, (.t 7)), (1, 1, (.t 9))]⟩,
       ⟨(some 11), none, .fa 1 (.t 1)⟩,
       ⟨(some 12), none, .ld none (.t 11)⟩,
       ⟨(some 13), none, .fa 2 (.t 1)⟩,
       ⟨(some 14), none, .ld none (.t 13)⟩,
       ⟨(some 15), none, .build [(.i .i64 0), (.i .i64 0)] [(0, 1, (.t 12)), (1, 1, (.t 14))]⟩,
       ⟨(some 16), none, .fa 2 (.t 1)⟩,
       ⟨(some 17), none, .ld none (.t 16)⟩,
       ⟨(some 18), none, .fa 0 (.t 1)⟩,
       ⟨(some 19), none, .ld none (.t 18)⟩,
       ⟨(some 20), none, .build [(.i .i64 0), (.i .i64 0)] [(0, 1, (.t 17)), (1, 1, (.t 19))]⟩,
       ⟨(some 21), none, .build [(.i .i64 0), (.i .i64 0), (.i .i64 0), (.i .i64 0), (.i .i64 0), (.i .i64 0)] [(0, 2, (.t 10)), (2, 2, (.t 15)), (4, 2, (.t 20))]⟩,
       ⟨(some 22), none, .mv (.c (.i .i64 0))⟩])
     (.blk 0
      (.loop
       (.seq
        (.reg [
          ⟨(some 23), none, .bin .lss (.t 22) (.c (.i .i64 3))⟩])
        (.seq
         (.ite (.t 23)
          .skip
          (.exit 0))
         (.seq
          (.blk 1
           (.seq
            (.reg [
              ⟨(some 24), none, .ix 3 2 (some 2) (.t 21) (.t 22)⟩,
              ⟨(some 5), none, .alloc [(.i .i64 0), (.i .i64 0)]⟩,
              ⟨none, none, .st 2 (.t 5) (.t 24)⟩])
            (.seq
             (.reg [
               ⟨(some 25), none, .fa 0 (.t 5)⟩,
               ⟨(some 26), none, .ld none (.t 25)⟩,
               ⟨(some 27), none, .fa 1 (.t 5)⟩,
               ⟨(some 28), none, .ld none (.t 27)⟩,
               ⟨(some 29), none, .bin .neq (.t 26) (.t 28)⟩])
             (.ite (.t 29)
              (.reg [
                ⟨(some 30), none, .mv (.t 3)⟩,
                ⟨(some 31), none, .ld (some 2) (.t 5)⟩,
                ⟨(some 32), none, .bsi 2 1 [(.i .i64 0), (.i .i64 0)] [(0, (.t 31))]⟩,
                ⟨(some 33), none, .app 2 16 (.t 30) (.t 32)⟩,
                ⟨(some 3), none, .mv (.t 33)⟩])
              .skip))))
          (.reg [
            ⟨(some 34), none, .bin .add (.t 22) (.c (.i .i64 1))⟩,
            ⟨(some 22), none, .mv (.t 34)⟩])))))))
    (.seq
     (.reg [
       ⟨(some 35), none, .mv (.t 3)⟩,
       ⟨(some 2), none, .mv (.t 35)⟩])
     .ret))))
def topo_edges.r : List Rr := [.tmp 2]
abbrev topo_edges.n : Nat := 36
def topo_order.c (cmp_Compare_int cmp_Or_int : FuncId) : C :=
 (.seq
  (.reg [
    ⟨(some 2), none, .box (.t 0)⟩,
    ⟨(some 3), none, .box (.t 1)⟩,
    ⟨(some 4), none, .mv (.c (.i .i64 0))⟩])
  (.seq
   (.drw [
     ⟨(some 5), none, .fa 0 (.t 2)⟩,
     ⟨(some 6), none, .ld none (.t 5)⟩,
     ⟨(some 7), none, .fa 0 (.t 3)⟩,
     ⟨(some 8), none, .ld none (.t 7)⟩,
     ⟨(some 9), none, .call cmp_Compare_int [(.t 6), (.t 8)]⟩,
     ⟨(some 10), none, .fa 1 (.t 2)⟩,
     ⟨(some 11), none, .ld none (.t 10)⟩,
     ⟨(some 12), none, .fa 1 (.t 3)⟩,
     ⟨(some 13), none, .ld none (.t 12)⟩,
     ⟨(some 14), none, .call cmp_Compare_int [(.t 11), (.t 13)]⟩,
     ⟨(some 15), none, .bsi 1 2 [(.i .i64 0)] [(0, (.t 9)), (1, (.t 14))]⟩,
     ⟨(some 16), none, .call cmp_Or_int [(.t 15)]⟩,
     ⟨(some 4), none, .mv (.t 16)⟩] [[], [], [], [], [], [4], [4], [4], [4], [], [], [], []])
   .ret))
def topo_order.r : List Rr := [.tmp 4]
abbrev topo_order.n : Nat := 17
def topo_Boundary.c (topo_counted topo_reverse slices_SortFunc_api_Edge_api_Edge topo_order : FuncId) : C :=
 (.seq
  (.reg [
    ⟨(some 1), none, .box (.t 0)⟩,
    ⟨(some 2), none, .mv (.c .nil)⟩])
  (.seq
   (.reg [
     ⟨(some 7), none, .ld (some 2) (.t 1)⟩,
     ⟨(some 8), none, .call topo_counted [(.t 7)]⟩,
     ⟨(some 3), none, .mv (.t 8)⟩])
   (.seq
    (.reg [
      ⟨(some 4), none, .mv (.c .nil)⟩])
    (.seq
     (.seq
      (.reg [
        ⟨(some 9), none, .mv (.t 3)⟩,
        ⟨(some 10), none, .mrng (.t 9)⟩])
      (.blk 0
       (.loop
        (.seq
         (.reg [
           ⟨(some 11), none, .mnx (.t 10)⟩,
           ⟨(some 12), none, .ext (.t 11) 0⟩])
         (.seq
          (.ite (.t 12)
           .skip
           (.exit 0))
          (.blk 1
           (.seq
            (.reg [
              ⟨(some 13), none, .men (.t 10)⟩,
              ⟨(some 14), none, .ext (.t 13) 0⟩,
              ⟨(some 15), none, .ext (.t 13) 1⟩,
              ⟨(some 5), none, .alloc [(.i .i64 0), (.i .i64 0)]⟩,
              ⟨none, none, .st 2 (.t 5) (.t 14)⟩,
              ⟨(some 6), none, .mv (.t 15)⟩])
            (.seq
             (.reg [
               ⟨(some 16), none, .mv (.t 6)⟩,
               ⟨(some 17), none, .mv (.t 3)⟩,
               ⟨(some 18), none, .ld (some 2) (.t 5)⟩,
               ⟨(some 19), none, .call topo_reverse [(.t 18)]⟩,
               ⟨(some 20), none, .lk [1, 1] (.i .i64 0) false (.t 17) (.t 19)⟩,
               ⟨(some 21), none, .bin .gtr (.t 16) (.t 20)⟩])
             (.ite (.t 21)
              (.reg [
                ⟨(some 22), none, .mv (.t 4)⟩,
                ⟨(some 23), none, .ld (some 2) (.t 5)⟩,
                ⟨(some 24), none, .bsi 2 1 [(.i .i64 0), (.i .i64 0)] [(0, (.t 23))]⟩,
                ⟨(some 25), none, .app 2 16 (.t 22) (.t 24)⟩,
                ⟨(some 4), none, .mv (.t 25)⟩])
              .skip)))))))))
     (.seq
      (.reg [
        ⟨(some 26), none, .mv (.t 4)⟩,
        ⟨(some 27), none, .call slices_SortFunc_api_Edge_api_Edge [(.t 26), (.c (.f topo_order []))]⟩])
      (.seq
       (.reg [
         ⟨(some 28), none, .mv (.t 4)⟩,
         ⟨(some 2), none, .mv (.t 28)⟩])
       .ret))))))
def topo_Boundary.r : List Rr := [.tmp 2]
abbrev topo_Boundary.n : Nat := 29
def topo_Closed.c (mesh_Check topo_Boundary : FuncId) : C :=
 (.seq
  (.reg [
    ⟨(some 1), none, .box (.t 0)⟩,
    ⟨(some 2), none, .mv (.c (.b false))⟩])
  (.seq
   (.reg [
     ⟨(some 3), none, .ld (some 2) (.t 1)⟩,
     ⟨(some 4), none, .call mesh_Check [(.t 3)]⟩,
     ⟨(some 5), none, .bin .eql (.t 4) (.c (.i .i64 0))⟩,
     ⟨(some 6), none, .mv (.t 5)⟩,
     ⟨(some 7), (some (6, true)), .ld (some 2) (.t 1)⟩,
     ⟨(some 8), (some (6, true)), .call topo_Boundary [(.t 7)]⟩,
     ⟨(some 9), (some (6, true)), .len 0 (.t 8)⟩,
     ⟨(some 10), (some (6, true)), .bin .eql (.t 9) (.c (.i .i64 0))⟩,
     ⟨(some 11), none, .pick (.t 6) (.t 10) (.c (.b false))⟩,
     ⟨(some 2), none, .mv (.t 11)⟩])
   .ret))
def topo_Closed.r : List Rr := [.tmp 2]
abbrev topo_Closed.n : Nat := 12
end Go.Abs
