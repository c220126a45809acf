/- What cutting a mesh does to values. -/
import Derived.Test.YtkefjgfcbcpcbaaGoSecE
set_option linter.unusedVariables false
set_option linter.unusedSimpArgs false
namespace Go.Abs

def triCut (m : Mesh) (z : Int) (t : T3) : Sg4 := cut3 z (m.v t.a) (m.v t.b) (m.v t.c)
def segsOf (m : Mesh) (z : Int) (ts : List T3) : List Sg4 := (ts.map (triCut m z)).filter (·.found)
def segEls (m : Mesh) (z : Int) (ts : List T3) : List (List V) := (segsOf m z ts).map Sg4.cs
def secCut (m : Mesh) (z : Int) : List Sg4 × Int := if m.check = 0 then (if z < -65536 ∨ 65536 < z then ([], 8) else (segsOf m z m.tris, 0)) else ([], m.check)
def secV (r : List Sg4 × Int) : V := .t [apV 4 (r.1.map Sg4.cs), .i .i64 r.2]
def secL (r : List Sg4 × Int) : V := .t [.l 4 (r.1.map Sg4.cs), .i .i64 r.2]
theorem secV_le (r : List Sg4 × Int) : Le (secV r) (secL r) := .inr ⟨_, _, rfl, rfl, .inl (apV_le 4 _), Le1.refl _, trivial⟩
def SecC (P : Program) (f : FuncId) : Prop := ∀ (m : Mesh) (z : Int), CallIs P f [m.enc, .i .i64 z] (secL (secCut m z))

theorem segEls_succ {m : Mesh} {z : Int} {ts : List T3} {k : Nat} {t : T3} (h : ts[k]? = some t) :
    segEls m z (ts.take (k + 1)) = segEls m z (ts.take k) ++ (if (triCut m z t).found = true then [(triCut m z t).cs] else []) := by
  simp only [segEls, segsOf, List.take_add_one, h, Option.toList_some, List.map_append, List.map_cons, List.map_nil, List.filter_append, List.filter_cons, List.filter_nil]
  split <;> simp

theorem segEls_len (m : Mesh) (z : Int) (ts : List T3) : (segEls m z ts).length ≤ ts.length := by
  simp only [segEls, segsOf, List.length_map]
  exact Nat.le_trans (List.length_filter_le _ _) (by simp)

theorem segEls_isD (m : Mesh) (z : Int) (ts : List T3) : (∀ x ∈ segEls m z ts, ∀ y ∈ x, y.isD = true) = True := by
  simp [segEls, Sg4.cs, V.isD]
theorem segEls_cl (m : Mesh) (z : Int) (ts : List T3) (n : Nat) : (∀ x ∈ segEls m z ts, ∀ y ∈ x, y.cl n = true) = True := by
  simp [segEls, Sg4.cs, V.cl, V.cl1, V.cl0]

section
variable {P : Program} (hm : P.follows .mixedOrders = true)
include hm

set_option maxRecDepth 4000 in
set_option maxHeartbeats 4000000 in
theorem section_Cut_ok {f fc fk ft : FuncId} (hf : FnOk P f (section_Cut.c fc fk ft) section_Cut.r section_Cut.n) (hc : CheckC P fc) (hk : CornersC P fk) (ht : CutC P ft) : SecC P f := by
  intro m z
  refine CallIs.res ?_ (secV_le _)
  refine PureC.is (pure_of hm hf (Nat.le_of_ble_eq_true rfl) ?_) rfl
  unfold section_Cut.c
  simp [go_sem, Mesh.enc, Mesh.cs, vsV, tsV]
  refine ACall_is (hc m) ?_
  by_cases hz : m.check = 0
  · obtain ⟨z1, z2, z3, z4⟩ := Mesh.check_zero.1 hz
    by_cases hr : z < -65536 ∨ 65536 < z
    · have hres : secCut m z = ([], 8) := by simp only [secCut, hz, hr, if_true]
      rw [hres]
      simp +contextual -implicitDefEqProofs [go_sem, hz, section_Cut.r, secV, apV]
      intro h1 h2
      omega
    · have hres : secV (secCut m z) = .t [apV 4 (segEls m z m.tris), .i .i64 0] := by simp only [secCut, hz, hr, if_true, if_false]; rfl
      rw [hres]
      simp [go_sem, hz, show ¬ z < -65536 by omega, show ¬ 65536 < z by omega]
      refine AS_loop (α := Nat) (fun k => k ≤ m.tris.length)
        (fun k => apS 7 [(1, .i .i64 z), (2, .p 0 1 0 0), (28, .i .i64 m.tris.length), (29, .i .i64 k)] [.arr 1 2 [m.cs]] 4 4 (segEls m z (m.tris.take k)))
        (fun k => m.tris.length - k) 0 (Nat.zero_le _) ?_ ?_
      · simp [go_sem, apS, segEls, segsOf, Mesh.cs, vsV, tsV]
      · intro k hk'
        have hlen := segEls_len m z (m.tris.take k)
        have hlen2 : (m.tris.take k).length ≤ k := by simp; omega
        cases hp : m.tris[k]? with
        | none =>
          have : ¬ k < m.tris.length := by simpa using hp
          obtain rfl : k = m.tris.length := by omega
          rw [List.take_length]
          have hd := of_eq_true (segEls_isD m z m.tris)
          generalize hels : segEls m z m.tris = els at *
          by_cases he : els = []
          · simp [go_sem, apS, he, section_Cut.r, apV]
          · simp [go_sem, apS, he, section_Cut.r, apV, List.take_of_length_le]
            rw [if_pos hd]
            rfl
        | some t =>
          obtain ⟨hlt, hp'⟩ := List.getElem?_eq_some_iff.1 hp
          have hsucc := segEls_succ (m := m) (z := z) hp
          have hcor : m.corners k = .t [(m.v t.a).enc, (m.v t.b).enc, (m.v t.c).enc, .b true] := by
            simp only [Mesh.corners, hz, Int.toNat_natCast, hp, show (0 : Int) ≤ k by omega, show (k : Int) < m.tris.length by omega, and_self, if_true]
          have hcut : CallIs P ft [.a ((m.v t.a).cs ++ (m.v t.b).cs ++ (m.v t.c).cs), .i .i64 z] (.t [.a (triCut m z t).cs, .b (triCut m z t).found]) := ht _ _ _ z
          have hcl := of_eq_true (segEls_cl m z (m.tris.take k) 6)
          generalize hels : segEls m z (m.tris.take k) = els at *
          by_cases he : els = []
          · subst he
            simp [go_sem, apS, hlt, Mesh.cs, vsV, tsV]
            refine ACall_is (hk m k) ?_
            rw [hcor]
            simp [go_sem, V3.enc, vcs]
            simp only [vcs, List.cons_append, List.nil_append] at hcut
            refine ACall_is hcut ?_
            cases hfo : (triCut m z t).found
            · simp [go_sem, Sg4.cs]
              simp (disch := omega) [go_sem, wrap64_small]
              refine ⟨k + 1, by omega, by omega, ?_⟩
              rw [hsucc]
              simp [go_sem, hfo, Mesh.cs, vsV, tsV]
            · simp [go_sem, Sg4.cs]
              simp (disch := omega) [go_sem, wrap64_small]
              refine ⟨k + 1, by omega, by omega, ?_⟩
              rw [hsucc]
              simp [go_sem, hfo, Mesh.cs, vsV, tsV, Sg4.cs]
          · simp [go_sem, apS, hlt, Mesh.cs, vsV, tsV, he]
            refine ACall_is (hk m k) ?_
            rw [hcor]
            simp [go_sem, V3.enc, vcs]
            simp only [vcs, List.cons_append, List.nil_append] at hcut
            refine ACall_is hcut ?_
            cases hfo : (triCut m z t).found
            · simp [go_sem, Sg4.cs]
              simp (disch := omega) [go_sem, wrap64_small]
              refine ⟨k + 1, by omega, by omega, ?_⟩
              rw [hsucc]
              simp [go_sem, hfo, Mesh.cs, vsV, tsV, he]
              exact hcl
            · simp [go_sem, Sg4.cs]
              simp (disch := omega) [go_sem, wrap64_small]
              refine ⟨⟨by omega, by omega⟩, k + 1, by omega, by omega, ?_⟩
              rw [hsucc]
              simp [go_sem, hfo, Mesh.cs, vsV, tsV, he, Sg4.cs]
              rintro el (he | rfl) x hx
              · exact hcl el he x hx
              · simp at hx; rcases hx with rfl | rfl | rfl | rfl <;> rfl
  · have hres : secCut m z = ([], m.check) := by simp only [secCut, hz, if_false]
    rw [hres]
    simp [go_sem, hz, section_Cut.r, secV, apV]

set_option maxRecDepth 8000 in
set_option maxHeartbeats 8000000 in
theorem ref15_Cut_ok {f fc fp : FuncId} (hf : FnOk P f (ref15_Cut.c fc fp) ref15_Cut.r ref15_Cut.n) (hc : CheckC P fc) (hq : PointC P fp) : SecC P f := by
  intro m z
  refine CallIs.res ?_ (secV_le _)
  refine PureC.is (pure_of hm hf (Nat.le_of_ble_eq_true rfl) ?_) rfl
  unfold ref15_Cut.c
  simp [go_sem, Mesh.enc, Mesh.cs, vsV, tsV]
  refine ACall_is (hc m) ?_
  by_cases hz : m.check = 0
  · obtain ⟨z1, z2, z3, z4⟩ := Mesh.check_zero.1 hz
    by_cases hr : z < -65536 ∨ 65536 < z
    · have hres : secCut m z = ([], 8) := by simp only [secCut, hz, hr, if_true]
      rw [hres]
      simp +contextual -implicitDefEqProofs [go_sem, hz, ref15_Cut.r, secV, apV]
      intro h1 h2
      omega
    · have hres : secV (secCut m z) = .t [apV 4 (segEls m z m.tris), .i .i64 0] := by simp only [secCut, hz, hr, if_true, if_false]; rfl
      rw [hres]
      simp [go_sem, hz, show ¬ z < -65536 by omega, show ¬ 65536 < z by omega]
      refine AS_loop (α := Nat) (fun k => k ≤ m.tris.length)
        (fun k => apS 7 [(1, .i .i64 z), (2, .p 0 1 0 0), (8, .i .i64 k)] [.arr 1 2 [m.cs]] 2 4 (segEls m z (m.tris.take k)))
        (fun k => m.tris.length - k) 0 (Nat.zero_le _) ?_ ?_
      · simp [go_sem, apS, segEls, segsOf, Mesh.cs, vsV, tsV]
      · intro k hk'
        have hlen := segEls_len m z (m.tris.take k)
        have hlen2 : (m.tris.take k).length ≤ k := by simp; omega
        cases hp : m.tris[k]? with
        | none =>
          have : ¬ k < m.tris.length := by simpa using hp
          obtain rfl : k = m.tris.length := by omega
          rw [List.take_length]
          have hd := of_eq_true (segEls_isD m z m.tris)
          generalize hels : segEls m z m.tris = els at *
          by_cases he : els = []
          · simp [go_sem, apS, he, ref15_Cut.r, apV, Mesh.cs, vsV, tsV]
          · simp [go_sem, apS, he, ref15_Cut.r, apV, List.take_of_length_le, Mesh.cs, vsV, tsV]
            rw [if_pos hd]
            rfl
        | some t =>
          obtain ⟨hlt, hp'⟩ := List.getElem?_eq_some_iff.1 hp
          have hsucc := segEls_succ (m := m) (z := z) hp
          obtain ⟨t1, t2, t3, t4, t5, t6⟩ := T3.ok_iff.1 (tsOk_get z4 hp)
          have ga := Mesh.v_get t2 (by omega)
          have gb := Mesh.v_get t4 (by omega)
          have gc := Mesh.v_get t6 (by omega)
          have hcl := of_eq_true (segEls_cl m z (m.tris.take k) 4)
          have hcl' := of_eq_true (segEls_cl m z (m.tris.take k) 6)
          generalize hels : segEls m z (m.tris.take k) = els at *
          have hcut : triCut m z t = cutAt z (m.v t.a) (m.v t.b) (m.v t.c) 3 := _root_.id rfl
          by_cases he : els = []
          · subst he
            simp [go_sem, apS, hlt, Mesh.cs, vsV, tsV, hp', tcs, vcs, t1, t2, t3, t4, t5, t6, show t.a.toNat < m.verts.length by omega, show t.b.toNat < m.verts.length by omega, show t.c.toNat < m.verts.length by omega, ga, gb, gc]
            generalize m.v t.a = va at *
            generalize m.v t.b = vb at *
            generalize m.v t.c = vc at *
            refine AS_loop (α := Nat) (fun j => j ≤ 3)
              (fun j => ⟨[(1, .i .i64 z), (2, .p 0 1 0 0), (7, .nil), (8, .i .i64 k), (9, .own 1 1 0 3), (10, .p 2 1 0 0), (11, .b (cutAt z va vb vc j).found), (12, .i .i64 j)], [.arr 1 2 [m.cs], .arr 1 3 [va.cs, vb.cs, vc.cs], .arr 1 4 [(cutAt z va vb vc j).cs]]⟩)
              (fun j => 3 - j) 0 (Nat.zero_le _) ?_ ?_
            · simp [go_sem, vcs, cutAt, Sg4.init, Sg4.cs, Mesh.cs, vsV, tsV]
            · intro j hj
              obtain rfl | rfl | rfl | rfl : j = 0 ∨ j = 1 ∨ j = 2 ∨ j = 3 := by omega
              · have hs : cutAt z va vb vc 1 = (cutAt z va vb vc 0).step z va vb := _root_.id rfl
                generalize cutAt z va vb vc 0 = s at hs ⊢
                simp (disch := omega) [go_sem, vcs, Sg4.cs, wrap64_small]
                refine DCall_is (hq va vb z) ?_
                cases h1 : point va vb z <;> simp [go_sem, ptR] <;> simp (disch := omega) [go_sem, wrap64_small] <;> refine DCall_is (hq vb va z) ?_ <;> cases h2 : point vb va z <;> simp [go_sem, ptR] <;>
                  simp (disch := omega) [go_sem, wrap64_small] <;> refine ⟨1, by omega, by omega, ?_⟩ <;> rw [hs] <;> simp [go_sem, vcs, Sg4.cs, Sg4.step, h1, h2, Mesh.cs, vsV, tsV]
              · have hs : cutAt z va vb vc 2 = (cutAt z va vb vc 1).step z vb vc := _root_.id rfl
                generalize cutAt z va vb vc 1 = s at hs ⊢
                simp (disch := omega) [go_sem, vcs, Sg4.cs, wrap64_small]
                refine DCall_is (hq vb vc z) ?_
                cases h1 : point vb vc z <;> simp [go_sem, ptR] <;> simp (disch := omega) [go_sem, wrap64_small] <;> refine DCall_is (hq vc vb z) ?_ <;> cases h2 : point vc vb z <;> simp [go_sem, ptR] <;>
                  simp (disch := omega) [go_sem, wrap64_small] <;> refine ⟨2, by omega, by omega, ?_⟩ <;> rw [hs] <;> simp [go_sem, vcs, Sg4.cs, Sg4.step, h1, h2, Mesh.cs, vsV, tsV]
              · have hs : cutAt z va vb vc 3 = (cutAt z va vb vc 2).step z vc va := _root_.id rfl
                generalize cutAt z va vb vc 2 = s at hs ⊢
                simp (disch := omega) [go_sem, vcs, Sg4.cs, wrap64_small]
                refine DCall_is (hq vc va z) ?_
                cases h1 : point vc va z <;> simp [go_sem, ptR] <;> simp (disch := omega) [go_sem, wrap64_small] <;> refine DCall_is (hq va vc z) ?_ <;> cases h2 : point va vc z <;> simp [go_sem, ptR] <;>
                  simp (disch := omega) [go_sem, wrap64_small] <;> refine ⟨3, by omega, by omega, ?_⟩ <;> rw [hs] <;> simp [go_sem, vcs, Sg4.cs, Sg4.step, h1, h2, Mesh.cs, vsV, tsV]
              · rw [← hcut]
                cases hfo : (triCut m z t).found
                · simp [go_sem, Sg4.cs]
                  simp (disch := omega) [go_sem, wrap64_small]
                  refine ⟨k + 1, by omega, by omega, ?_⟩
                  rw [hsucc]
                  simp [go_sem, hfo, Mesh.cs, vsV, tsV]
                · simp [go_sem, Sg4.cs]
                  simp (disch := omega) [go_sem, wrap64_small]
                  refine ⟨k + 1, by omega, by omega, ?_⟩
                  rw [hsucc]
                  simp [go_sem, hfo, Mesh.cs, vsV, tsV, Sg4.cs]
          · simp [go_sem, apS, hlt, Mesh.cs, vsV, tsV, he, hp', tcs, vcs, t1, t2, t3, t4, t5, t6, show t.a.toNat < m.verts.length by omega, show t.b.toNat < m.verts.length by omega, show t.c.toNat < m.verts.length by omega, ga, gb, gc]
            generalize m.v t.a = va at *
            generalize m.v t.b = vb at *
            generalize m.v t.c = vc at *
            refine AS_loop (α := Nat) (fun j => j ≤ 3)
              (fun j => ⟨[(1, .i .i64 z), (2, .p 0 1 0 0), (7, .own 3 els.length 0 els.length), (8, .i .i64 k), (9, .own 4 1 0 3), (10, .p 5 1 0 0), (11, .b (cutAt z va vb vc j).found), (12, .i .i64 j)], [.arr 1 2 [m.cs], O.dead, O.dead, O.arr els.length 4 els, .arr 1 3 [va.cs, vb.cs, vc.cs], .arr 1 4 [(cutAt z va vb vc j).cs]]⟩)
              (fun j => 3 - j) 0 (Nat.zero_le _) ?_ ?_
            · simp [go_sem, vcs, cutAt, Sg4.init, Sg4.cs, Mesh.cs, vsV, tsV, he]
              exact hcl'
            · intro j hj
              obtain rfl | rfl | rfl | rfl : j = 0 ∨ j = 1 ∨ j = 2 ∨ j = 3 := by omega
              · have hs : cutAt z va vb vc 1 = (cutAt z va vb vc 0).step z va vb := _root_.id rfl
                generalize cutAt z va vb vc 0 = s at hs ⊢
                simp (disch := omega) [go_sem, vcs, Sg4.cs, wrap64_small]
                refine DCall_is (hq va vb z) ?_
                cases h1 : point va vb z <;> simp [go_sem, ptR] <;> simp (disch := omega) [go_sem, wrap64_small] <;> refine DCall_is (hq vb va z) ?_ <;> cases h2 : point vb va z <;> simp [go_sem, ptR] <;>
                  simp (disch := omega) [go_sem, wrap64_small] <;> refine ⟨1, by omega, by omega, ?_⟩ <;> rw [hs] <;> simp [go_sem, vcs, Sg4.cs, Sg4.step, h1, h2, Mesh.cs, vsV, tsV, he] <;> exact hcl'
              · have hs : cutAt z va vb vc 2 = (cutAt z va vb vc 1).step z vb vc := _root_.id rfl
                generalize cutAt z va vb vc 1 = s at hs ⊢
                simp (disch := omega) [go_sem, vcs, Sg4.cs, wrap64_small]
                refine DCall_is (hq vb vc z) ?_
                cases h1 : point vb vc z <;> simp [go_sem, ptR] <;> simp (disch := omega) [go_sem, wrap64_small] <;> refine DCall_is (hq vc vb z) ?_ <;> cases h2 : point vc vb z <;> simp [go_sem, ptR] <;>
                  simp (disch := omega) [go_sem, wrap64_small] <;> refine ⟨2, by omega, by omega, ?_⟩ <;> rw [hs] <;> simp [go_sem, vcs, Sg4.cs, Sg4.step, h1, h2, Mesh.cs, vsV, tsV, he] <;> exact hcl'
              · have hs : cutAt z va vb vc 3 = (cutAt z va vb vc 2).step z vc va := _root_.id rfl
                generalize cutAt z va vb vc 2 = s at hs ⊢
                simp (disch := omega) [go_sem, vcs, Sg4.cs, wrap64_small]
                refine DCall_is (hq vc va z) ?_
                cases h1 : point vc va z <;> simp [go_sem, ptR] <;> simp (disch := omega) [go_sem, wrap64_small] <;> refine DCall_is (hq va vc z) ?_ <;> cases h2 : point va vc z <;> simp [go_sem, ptR] <;>
                  simp (disch := omega) [go_sem, wrap64_small] <;> refine ⟨3, by omega, by omega, ?_⟩ <;> rw [hs] <;> simp [go_sem, vcs, Sg4.cs, Sg4.step, h1, h2, Mesh.cs, vsV, tsV, he] <;> exact hcl'
              · rw [← hcut]
                cases hfo : (triCut m z t).found
                · simp [go_sem, Sg4.cs]
                  simp (disch := omega) [go_sem, wrap64_small]
                  refine ⟨k + 1, by omega, by omega, ?_⟩
                  rw [hsucc]
                  simp [go_sem, hfo, Mesh.cs, vsV, tsV, he]
                  exact hcl
                · simp [go_sem, Sg4.cs]
                  simp (disch := omega) [go_sem, wrap64_small]
                  refine ⟨⟨by omega, by omega⟩, k + 1, by omega, by omega, ?_⟩
                  rw [hsucc]
                  simp [go_sem, hfo, Mesh.cs, vsV, tsV, he, Sg4.cs]
                  rintro el (he | rfl) x hx
                  · exact hcl el he x hx
                  · simp at hx; rcases hx with rfl | rfl | rfl | rfl <;> rfl
  · have hres : secCut m z = ([], m.check) := by simp only [secCut, hz, if_false]
    rw [hres]
    simp [go_sem, hz, ref15_Cut.r, secV, apV]
end
end Go.Abs

