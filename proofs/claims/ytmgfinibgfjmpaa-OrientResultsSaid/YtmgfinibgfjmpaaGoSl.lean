/- Part of the library on which the proof stands: an abstract machine, its values and its soundness against the model; or what functions of the program do to such values. -/
import Derived.Test.YtmgfinibgfjmpaaGoTpA
import Derived.Test.YtmgfinibgfjmpaaGoTk
import Derived.Test.YtmgfinibgfjmpaaGoClone
import Derived.Test.YtmgfinibgfjmpaaAbsSN
import Derived.Test.YtmgfinibgfjmpaaGoMap
set_option linter.unusedVariables false
set_option linter.unusedSimpArgs false
namespace Go.Abs

theorem set_closed {h : List O} {id n : Nat} {o : O} (hc : ∀ o ∈ h, o.cl n) (ho : o.cl n) : ∀ o' ∈ h.set id o, o'.cl n := by
  intro o' ho'
  rcases List.mem_or_eq_of_mem_set ho' with h1 | rfl
  · exact hc o' h1
  · exact ho
theorem WeakH_self {n : Nat} {h l : List O} (hc : ∀ o ∈ h, o.cl n) : WeakH n (h ++ l) h := by
  have := WeakH_app (n := n) (a := l) (b := []) hc (by cases l <;> trivial)
  rwa [List.append_nil] at this
theorem app_get_l {h l : List O} {id : Nat} {o : O} (ho : h[id]? = some o) : (h ++ l)[id]? = some o := by
  rw [List.getElem?_append_left (List.getElem?_eq_some_iff.1 ho).1, ho]
theorem app_set_l {h : List O} (l : List O) {id : Nat} (hid : id < h.length) (o : O) : (h ++ l).set id o = h.set id o ++ l := List.set_append_left _ _ hid

theorem frzAll_own {h : List O} {id g sz n : Nat} {els : List (List V)} (ho : h[id]? = some (.arr g sz els)) (hn : els.length = n) (hd : ∀ el ∈ els, ∀ x ∈ el, x.isD = true) {vs us : List V} (hr : frzAll h vs = some us) :
    frzAll h (.own id g 0 n :: vs) = some (.l sz els :: us) := by
  subst hn
  have ha : (els.all fun x => x.all V.isD) = true := by rw [List.all_eq_true]; exact fun el hel => List.all_eq_true.2 (hd el hel)
  have h1 : frz h (.own id g 0 els.length) = some (.l sz els) := by simp [frz, frz0, ho, ha]
  unfold frzAll at hr ⊢
  simp [h1, hr]

theorem shift_list {α : Type} (l : List α) (z : α) {j : Nat} (h : j ≤ l.length) : ∃ c, (c = z ∨ c ∈ l) ∧
    List.take (j + 1) (l ++ [z]) ++ (List.take (l.length - j) (List.take (l.length + 1 - j) (List.drop j (l ++ [z]))) ++ List.drop (j + 1 + (l.length - j)) (l ++ [z])) = l.take j ++ c :: l.drop j := by
  have e1 : List.drop j (l ++ [z]) = l.drop j ++ [z] := List.drop_append_of_le_length h
  have e2 : List.take (l.length - j) (List.take (l.length + 1 - j) (l.drop j ++ [z])) = l.drop j := by
    rw [List.take_take, Nat.min_eq_left (by omega), List.take_append_of_le_length (by simp)]
    exact List.take_of_length_le (by simp)
  have e3 : List.drop (j + 1 + (l.length - j)) (l ++ [z]) = [] := List.drop_eq_nil_of_le (by simp; omega)
  have hj : j < (l ++ [z]).length := by simp; omega
  refine ⟨(l ++ [z])[j], ?_, ?_⟩
  · have := List.getElem_mem hj
    rw [List.mem_append, List.mem_singleton] at this
    exact this.symm
  · rw [e1, e2, e3, List.take_add_one, List.getElem?_eq_getElem hj, List.take_append_of_le_length h]
    simp

def WithC (P : Program) (f : FuncId) : Prop := ∀ (l : List Use) (e : P2), ascU l → l.length ≤ 1000000 → ∀ (h : List O) (id : Nat), h[id]? = some (.arr (l.length + 1) 3 (l.map uCs)) →
  ACall P f [.own id (l.length + 1) 0 l.length, e.enc] h (fun r h' => r = .own id ((withU l e).length + 1) 0 (withU l e).length ∧ h' = h.set id (.arr ((withU l e).length + 1) 3 ((withU l e).map uCs)))

section
variable {P : Program} (hm : P.follows .mixedOrders = true)
include hm

set_option maxHeartbeats 1000000 in
theorem ref10_with_ok {f fp : FuncId} (hf : FnOk P f (ref10_with.c fp) ref10_with.r ref10_with.n) (hp : PlaceC P fp) : WithC P f := by
  intro l e hasc hl h id ho
  have hid : id < h.length := (List.getElem?_eq_some_iff.1 ho).1
  have hpl := pl_le l e
  refine ACall_closed fun hcl => ?_
  refine call_intro hm hf (Nat.le_of_ble_eq_true rfl) ?_
  unfold ref10_with.c
  have hg : ∀ l2 : List O, (h ++ l2)[id]? = _ := fun l2 => app_get_l ho
  have hs : ∀ (l2 : List O) (o : O), (h ++ l2).set id o = h.set id o ++ l2 := fun l2 o => app_set_l l2 hid o
  have hg2 : ∀ (o : O) (l2 : List O), (h.set id o ++ l2)[id]? = some o := fun o l2 => app_get_l (by rw [List.getElem?_set_self hid])
  have hg3 : ∀ (o : O) (l2 : List O), (h.set id o ++ l2)[h.length]? = l2[0]? := fun o l2 => by rw [List.getElem?_append_right (by simp)]; simp
  have hs2 : ∀ (o o' : O) (l2 : List O), (h.set id o ++ l2).set id o' = h.set id o' ++ l2 := fun o o' l2 => by rw [app_set_l _ (by simpa using hid), List.set_set]
  simp [go_sem, P2.enc, pcs, app_get_r, app_get_0, app_set_r, app_set_0, hg]
  refine ACall_lend (vs := [useV l, e.enc]) ?_ ((hp l e hasc hl) []) rfl ?_
  · exact frzAll_own (hg _) (by simp) (uCs_isD l) (by simp [frzAll, frz, frz0, P2.enc, pcs])
  by_cases hhas : hasU l e = true
  · have hw : withU l e = l := by simp [withU, hhas]
    rw [hw]
    unfold hasU at hhas
    split at hhas
    case h_2 => simp at hhas
    rename_i u hq
    obtain ⟨hlt, hq'⟩ := List.getElem?_eq_some_iff.1 hq
    have he := p2_eq u.1 e
    rw [hhas] at he
    have hsame : h.set id (O.arr (l.length + 1) 3 (List.map uCs l)) = h := by
      apply List.ext_getElem?
      intro j
      by_cases hj : id = j
      · subst hj; rw [List.getElem?_set_self hid, ho]
      · rw [List.getElem?_set_ne hj]
    simp (disch := omega) [go_sem, app_get_r, app_get_0, app_set_r, app_set_0, hg, hlt, hq, hq', useCs, ← he, ref10_with.r]
    rw [hsame]
    exact ⟨_, hid, Nat.le_refl _, by omega, WeakH_self (hcl _ (Nat.le_refl _)), rfl⟩
  · have hw : withU l e = l.take (pl l e) ++ (e, 0) :: l.drop (pl l e) := by simp [withU, hhas]
    obtain ⟨c, hc, hX⟩ := shift_list (l.map uCs) [V.i .i64 0, V.i .i64 0, V.i .i64 0] (j := pl l e) (by simpa using hpl)
    rw [List.length_map] at hX
    have hc3 : ∃ c1 c2 c3 : Int, c = [.i .i64 c1, .i .i64 c2, .i .i64 c3] := by
      rcases hc with rfl | hc
      · exact ⟨0, 0, 0, rfl⟩
      · obtain ⟨u, _, rfl⟩ := List.mem_map.1 hc
        exact ⟨u.1.x, u.1.y, u.2, rfl⟩
    obtain ⟨c1, c2, c3, rfl⟩ := hc3
    have htl : (List.take (pl l e) (l.map uCs)).length = pl l e := by simp; omega
    have hXg : ∀ c : List V, (List.take (pl l e) (l.map uCs) ++ c :: List.drop (pl l e) (l.map uCs))[pl l e]? = some c := fun c => by
      rw [List.getElem?_append_right (by omega), htl]; simp
    have hXs : ∀ c d : List V, (List.take (pl l e) (l.map uCs) ++ c :: List.drop (pl l e) (l.map uCs)).set (pl l e) d = List.take (pl l e) (l.map uCs) ++ d :: List.drop (pl l e) (l.map uCs) := fun c d => by
      rw [List.set_append_right _ _ (by omega), htl]; simp
    have hwm : (withU l e).map uCs = List.take (pl l e) (l.map uCs) ++ uCs (e, 0) :: List.drop (pl l e) (l.map uCs) := by rw [hw]; simp
    have hwl : (withU l e).length = l.length + 1 := by rw [hw]; simp; omega
    rw [hwl, hwm]
    have hfin : ∃ x : List O, id < x.length ∧ h.length ≤ x.length ∧ x.length ≤ h.length + 1 ∧
        WeakH x.length (h.set id (.arr (l.length + 1 + 1) 3 (List.take (pl l e) (l.map uCs) ++ [.i .i64 e.x, .i .i64 e.y, .i .i64 0] :: List.drop (pl l e) (l.map uCs))) ++ [.arr 1 2 [[.i .i64 e.x, .i .i64 e.y]]]) x ∧
        x = h.set id (.arr (l.length + 1 + 1) 3 (List.take (pl l e) (l.map uCs) ++ [.i .i64 e.x, .i .i64 e.y, .i .i64 0] :: List.drop (pl l e) (l.map uCs))) := by
      refine ⟨_, by simpa using hid, by simp, by simp, WeakH_self (set_closed (hcl _ (by simp)) ?_), rfl⟩
      intro el hel x hx
      rw [← show uCs (e, 0) = [.i .i64 e.x, .i .i64 e.y, .i .i64 0] from rfl, ← hwm] at hel
      exact isD_cl _ (uCs_isD _ el hel x hx)
    have hnb : (decide (pl l e < l.length) && (match l[pl l e]? with | some u => (u.1.x == e.x && u.1.y == e.y) | none => false)) = false := by
      unfold hasU at hhas
      split at hhas
      · rename_i u hq
        rw [hq]
        have he := p2_eq u.1 e
        simp only
        rw [← he]
        simpa using fun _ => hhas
      · rename_i hq
        rw [hq]; simp
    by_cases hlt : pl l e < l.length
    · have hq : l[pl l e]? = some l[pl l e] := List.getElem?_eq_getElem hlt
      rw [hq] at hnb
      generalize l[pl l e] = u at hq hnb
      obtain ⟨_, hq'⟩ := List.getElem?_eq_some_iff.1 hq
      simp only [hlt, decide_true, Bool.true_and] at hnb
      generalize pl l e = j at *
      simp (disch := omega) [go_sem, app_get_r, app_get_0, app_set_r, app_set_0, hg, hg2, hg3, hs, hs2, hlt, hq, hq', useCs, hnb, wrap64_small, show (0 ≤ (j : Int) + 1) by omega, show j + 1 ≤ l.length + 1 by omega, show j ≤ l.length + 1 by omega, hX, hXg, hXs, ref10_with.r]
      exact ⟨⟨by omega, by omega⟩, by omega, hfin⟩
    · have hj : pl l e = l.length := by omega
      rw [hj] at hfin
      have ht0 : List.take l.length (l.map uCs) = l.map uCs := List.take_of_length_le (by simp)
      have hd0 : List.drop l.length (l.map uCs) = [] := List.drop_eq_nil_of_le (by simp)
      have hg5 : ∀ c : List V, (l.map uCs ++ [c])[l.length]? = some c := fun c => by rw [List.getElem?_append_right (by simp)]; simp
      have hs5 : ∀ c d : List V, (l.map uCs ++ [c]).set l.length d = l.map uCs ++ [d] := fun c d => by rw [List.set_append_right _ _ (by simp)]; simp
      rw [ht0, hd0] at hfin
      simp (disch := omega) [go_sem, app_get_r, app_get_0, app_set_r, app_set_0, hg, hg2, hg3, hs, hs2, hj, useCs, wrap64_small, show (0 ≤ (l.length : Int) + 1) by omega, ht0, hd0, hg5, hs5, ref10_with.r]
      exact ⟨⟨by omega, by omega⟩, hfin⟩
end
end Go.Abs
set_option linter.unusedVariables false
set_option linter.unusedSimpArgs false
namespace Go.Abs

theorem uCs_cl (l : List Use) (n : Nat) : ∀ el ∈ l.map uCs, ∀ x ∈ el, x.cl n = true := fun el hel x hx => isD_cl n (uCs_isD l el hel x hx)
theorem uCs_cl' (n : Nat) : (∀ (u : Use), ∀ x ∈ uCs u, x.cl n = true) := fun u x hx => uCs_cl [u] n (uCs u) (by simp) x hx

theorem uCs_cl2 (L : List Use) (n : Nat) : ∀ (el : List V) (x : P2) (y : Int), (x, y) ∈ L → uCs (x, y) = el → ∀ z ∈ el, z.cl n = true := by
  rintro _ x y _ rfl z hz; exact uCs_cl' n (x, y) z hz
section
variable {P : Program} (hm : P.follows .mixedOrders = true)
include hm

end
def undL (E : List P2) : List Use := E.foldl withU []
theorem undL_snoc (E : List P2) (e : P2) : undL (E ++ [e]) = withU (undL E) e := by simp [undL]
theorem undL_ok (E : List P2) : ascU (undL E) ∧ (∀ e n, (e, n) ∈ undL E ↔ e ∈ E ∧ n = 0) ∧ (undL E).length ≤ E.length := by
  refine rev_ind (p := fun E => ascU (undL E) ∧ (∀ e n, (e, n) ∈ undL E ↔ e ∈ E ∧ n = 0) ∧ (undL E).length ≤ E.length) ?_ ?_ E
  · simp [undL, ascU]
  · rintro E x ⟨h1, h2, h3⟩
    rw [undL_snoc]
    refine ⟨withU_asc h1 x, fun e n => ?_, ?_⟩
    · rw [mem_withU h1, h2]
      constructor
      · rintro (⟨h, rfl⟩ | ⟨h, hh⟩)
        · exact ⟨by simp [h], rfl⟩
        · simp only [Prod.mk.injEq] at h
          obtain ⟨rfl, rfl⟩ := h
          exact ⟨by simp, rfl⟩
      · rintro ⟨h, rfl⟩
        rw [List.mem_append, List.mem_singleton] at h
        by_cases hE : e ∈ E
        · exact .inl ⟨hE, rfl⟩
        · obtain rfl : e = x := h.resolve_left hE
          refine .inr ⟨rfl, ?_⟩
          rw [Bool.eq_false_iff]
          intro hh
          obtain ⟨n, hn⟩ := (hasU_iff h1).1 hh
          exact hE ((h2 e n).1 hn).1
    · unfold withU; split
      · simp; omega
      · have := pl_le (undL E) x
        simp; omega
def UndirC (P : Program) (f : FuncId) : Prop := ∀ m : Mesh, m.check = 0 → NewC P f [m.enc] (fun r h => r = .own 1 ((undL ((alluses m.tris).map P2.und)).length + 1) 0 (undL ((alluses m.tris).map P2.und)).length ∧
  h = [.dead, .arr ((undL ((alluses m.tris).map P2.und)).length + 1) 3 ((undL ((alluses m.tris).map P2.und)).map uCs)])

section
variable {P : Program} (hm : P.follows .mixedOrders = true)
include hm

set_option maxHeartbeats 4000000 in
theorem ref10_undirected_ok {f fd fu fw : FuncId} (hf : FnOk P f (ref10_undirected.c fd fu fw) ref10_undirected.r ref10_undirected.n) (hd : EdgesC P fd) (hu : UndC P fu) (hw : WithC P fw) : UndirC P f := by
  intro m hz
  refine new_of hm hf (Nat.le_of_ble_eq_true rfl) ?_
  unfold ref10_undirected.c
  have hl := (Mesh.check_zero.1 hz).2.1
  simp [go_sem, Mesh.enc, Mesh.cs, tsV]
  refine AS_loopG [.t 3 3] (α := Nat) (fun k => k ≤ m.tris.length)
    (fun k => ⟨[(3, .own 1 ((undL ((alluses (m.tris.take k)).map P2.und)).length + 1) 0 (undL ((alluses (m.tris.take k)).map P2.und)).length), (9, tsV m.tris), (10, .i .i64 m.tris.length), (11, .i .i64 k)],
      [.dead, .arr ((undL ((alluses (m.tris.take k)).map P2.und)).length + 1) 3 ((undL ((alluses (m.tris.take k)).map P2.und)).map uCs)]⟩)
    (fun k => m.tris.length - k) 0 (by omega) ?_ ?_
  · simp [go_sem, tsV, alluses, undL]
  · intro k hk
    by_cases hkl : k = m.tris.length
    · subst hkl
      rw [List.take_length]
      simp [go_sem, tsV, ref10_undirected.r]
      exact uCs_cl2 _ _
    · have hlt : k < m.tris.length := by omega
      have hp : m.tris[k]? = some m.tris[k] := List.getElem?_eq_getElem hlt
      generalize m.tris[k] = t at hp
      obtain ⟨_, hp'⟩ := List.getElem?_eq_some_iff.1 hp
      simp [go_sem, tsV, hlt, hp', tcs]
      refine ACall_is (hd t) ?_
      have hlen : (edgesOf t).length ≤ 3 := edgesK_le t 3
      have hE := alluses_len m.tris k
      have hsuc := alluses_succ hp
      generalize hA : alluses (m.tris.take k) = A0 at *
      simp [go_sem, psV]
      refine AS_loop (α := Nat) (fun j => j ≤ (edgesOf t).length)
        (fun j => ⟨[(3, .own 1 ((undL ((A0 ++ (edgesOf t).take j).map P2.und)).length + 1) 0 (undL ((A0 ++ (edgesOf t).take j).map P2.und)).length), (9, tsV m.tris), (10, .i .i64 m.tris.length), (11, .i .i64 k), (16, psV (edgesOf t)), (17, .i .i64 (edgesOf t).length), (18, .i .i64 j)],
          [.dead, .arr ((undL ((A0 ++ (edgesOf t).take j).map P2.und)).length + 1) 3 ((undL ((A0 ++ (edgesOf t).take j).map P2.und)).map uCs)]⟩)
        (fun j => (edgesOf t).length - j) 0 (by omega) ?_ ?_
      · simp [go_sem, tsV, psV]
        exact uCs_cl2 _ _
      · intro j hj
        by_cases hjl : j = (edgesOf t).length
        · subst hjl
          rw [List.take_length, ← hsuc]
          simp (disch := omega) [go_sem, tsV, psV, wrap64_small]
          exact ⟨k + 1, by omega, by omega, by simp, ⟨rfl, rfl⟩, uCs_cl2 _ _⟩
        · have hjlt : j < (edgesOf t).length := by omega
          have hq : (edgesOf t)[j]? = some (edgesOf t)[j] := List.getElem?_eq_getElem hjlt
          have htk : (edgesOf t).take (j + 1) = (edgesOf t).take j ++ [(edgesOf t)[j]] := by rw [List.take_add_one, hq]; rfl
          generalize (edgesOf t)[j] = e at hq htk
          obtain ⟨_, hq'⟩ := List.getElem?_eq_some_iff.1 hq
          have hS1 : (A0 ++ (edgesOf t).take (j + 1)).map P2.und = (A0 ++ (edgesOf t).take j).map P2.und ++ [e.und] := by rw [htk, ← List.append_assoc, List.map_append (l₂ := [e])]; rfl
          have hSl : ((A0 ++ (edgesOf t).take j).map P2.und).length ≤ 3 * 4096 + 3 := by rw [List.length_map, List.length_append, List.length_take]; omega
          generalize hS : (A0 ++ (edgesOf t).take j).map P2.und = S at hS1 hSl
          have hT1 := undL_snoc S e.und
          rw [← hS1] at hT1
          have hC := undL_ok S
          generalize undL S = L at hT1 hC
          simp [go_sem, psV, hjlt, hq', pcs]
          refine ACall_is (hu e) ?_
          simp [go_sem, psV]
          refine ACall_to (hw L e.und hC.1 (by omega) _ 1 rfl) ?_
          simp (disch := omega) [go_sem, psV, wrap64_small]
          rw [List.map_append, List.map_take] at hT1
          exact ⟨j + 1, by omega, by omega, ⟨by rw [hT1], .inr rfl, by simp⟩, ⟨by rw [hT1], by rw [hT1]⟩, uCs_cl2 _ _⟩
end
end Go.Abs
set_option linter.unusedVariables false
set_option linter.unusedSimpArgs false
namespace Go.Abs

def Mesh.edgesL (m : Mesh) : List P2 := if m.check = 0 then ascOf ((alluses m.tris).map P2.und) else []
theorem sh_uCs (L : List Use) (g n : Nat) : (O.arr g 3 (L.map uCs)).sh n = .arr g 3 (L.map uCs) := by
  have h : ∀ u : Use, (uCs u).map (V.sh1 n) = uCs u := fun u => by simp [uCs, V.sh1, V.sh0]
  simp only [O.sh, List.map_map, Function.comp_def, h]
theorem und_asc (E : List P2) : asc ((undL E).map Prod.fst) := by
  have h := (undL_ok E).1
  unfold ascU at h
  unfold asc
  rw [List.pairwise_map]
  exact h
theorem und_keys (E : List P2) : (undL E).map Prod.fst = ascOf E := by
  refine asc_ext (und_asc E) (ascOf_asc _) fun a => ?_
  rw [mem_ascOf, List.mem_map]
  have h := (undL_ok E).2.1
  constructor
  · rintro ⟨⟨x, n⟩, h1, rfl⟩; exact ((h x n).1 h1).1
  · intro h1; exact ⟨(a, 0), (h a 0).2 ⟨h1, rfl⟩, rfl⟩
theorem take_succ_get {α : Type} {l : List α} {k : Nat} {x : α} (h : l[k]? = some x) : l.take (k + 1) = l.take k ++ [x] := by rw [List.take_add_one, h]; rfl
section
variable {P : Program} (hm : P.follows .mixedOrders = true)
include hm

end
end Go.Abs
set_option linter.unusedVariables false
set_option linter.unusedSimpArgs false
namespace Go.Abs
open Go.Sort

theorem edgesOf_ne {t : T3} {e : P2} (h : e ∈ edgesOf t) : e.x ≠ e.y := by
  unfold edgesOf edgesK at h
  have := (List.mem_filter.1 h).2
  simpa using this
section
variable {P : Program} (hm : P.follows .mixedOrders = true)
include hm

end
end Go.Abs
set_option linter.unusedVariables false
set_option linter.unusedSimpArgs false
namespace Go.Abs

def isV (l : List Int) : V := .l 1 (l.map fun x => [.i .i64 x])
section
variable {P : Program} (hm : P.follows .mixedOrders = true)
include hm

end
end Go.Abs
set_option linter.unusedVariables false
set_option linter.unusedSimpArgs false
namespace Go.Abs

def bl (n : Nat) (g : Nat → Bool) : List (List V) := (List.range n).map fun j => [.b (g j)]
theorem bl_len (n : Nat) (g : Nat → Bool) : (bl n g).length = n := by simp [bl]
theorem bl_get {n : Nat} {g : Nat → Bool} {i : Nat} (h : i < n) : (bl n g)[i]? = some [.b (g i)] := by simp [bl, h]
theorem bl_rep (n : Nat) : List.replicate n [V.b false] = bl n (fun _ => false) := by
  apply List.ext_getElem?
  intro i
  by_cases h : i < n
  · rw [bl_get h]; simp [h]
  · rw [List.getElem?_eq_none (by simp; omega), List.getElem?_eq_none (by rw [bl_len]; omega)]
theorem bl_set (n : Nat) (g : Nat → Bool) (i : Nat) (b : Bool) : (bl n g).set i [.b b] = bl n (fun j => if j = i then b else g j) := by
  apply List.ext_getElem?
  intro j
  by_cases h : j < n
  · rw [bl_get h]
    by_cases hj : i = j
    · subst hj
      rw [List.getElem?_set_self (by rw [bl_len]; exact h), if_pos rfl]
    · rw [List.getElem?_set_ne hj, bl_get h, if_neg (fun hh => hj hh.symm)]
  · rw [List.getElem?_eq_none (by simp [bl_len]; omega), List.getElem?_eq_none (by rw [bl_len]; omega)]
theorem bl_cl (n : Nat) (g : Nat → Bool) (k : Nat) : ∀ el ∈ bl n g, ∀ x ∈ el, x.cl k = true := by
  intro el hel x hx
  obtain ⟨j, _, rfl⟩ := List.mem_map.1 hel
  simp at hx; subst hx; rfl
end Go.Abs
set_option linter.unusedVariables false
set_option linter.unusedSimpArgs false
namespace Go.Abs

def ics (l : List Int) : List (List V) := l.map fun x => [.i .i64 x]
def lsV (ls : List (List Int)) : V := .l 1 (ls.map fun l => [isV l])
/-- Lists that stand in arrays of their own. -/
def Held (b : Nat) (hx : List O) (ls : List (List Int)) (cells : List (List V)) : Prop :=
  cells.length = ls.length ∧ ∀ (i : Nat) (c : List V) (l : List Int), cells[i]? = some c → ls[i]? = some l → ∃ j g, c = [.own (b + j) g 0 l.length] ∧ hx[j]? = some (.arr g 1 (ics l))
def Flt (hx : List O) : Prop := ∀ o ∈ hx, ∀ n, o.cl n
theorem Held.nil (b : Nat) : Held b [] [] [] := ⟨rfl, by simp⟩
theorem Held.app {b : Nat} {hx : List O} {ls : List (List Int)} {cells : List (List V)} (h : Held b hx ls cells) (l : List O) : Held b (hx ++ l) ls cells :=
  ⟨h.1, fun i c x h1 h2 => by obtain ⟨j, g, h3, h4⟩ := h.2 i c x h1 h2; exact ⟨j, g, h3, by rw [List.getElem?_append_left (List.getElem?_eq_some_iff.1 h4).1]; exact h4⟩⟩
theorem Held.snoc {b : Nat} {hx : List O} {ls : List (List Int)} {cells : List (List V)} (h : Held b hx ls cells) {j g : Nat} {l : List Int} (hj : hx[j]? = some (.arr g 1 (ics l))) : Held b hx (ls ++ [l]) (cells ++ [[.own (b + j) g 0 l.length]]) := by
  refine ⟨by simp [h.1], fun i c x h1 h2 => ?_⟩
  by_cases hi : i < ls.length
  · rw [List.getElem?_append_left (by rw [h.1]; exact hi)] at h1
    rw [List.getElem?_append_left hi] at h2
    exact h.2 i c x h1 h2
  · rw [List.getElem?_append_right (by rw [h.1]; omega)] at h1
    rw [List.getElem?_append_right (by omega)] at h2
    have hi0 : i - ls.length = 0 := by
      have := (List.getElem?_eq_some_iff.1 h2).1
      simp at this; omega
    rw [h.1, hi0] at h1
    rw [hi0] at h2
    simp at h1 h2
    subst h1; subst h2
    exact ⟨j, g, rfl, hj⟩
theorem Held.cl {b : Nat} {hx : List O} {ls : List (List Int)} {cells : List (List V)} (h : Held b hx ls cells) {n : Nat} (hn : b + hx.length ≤ n) : ∀ el ∈ cells, ∀ x ∈ el, x.cl n = true := by
  intro el hel x hx'
  obtain ⟨i, hi⟩ := List.getElem?_of_mem hel
  have hlt := (List.getElem?_eq_some_iff.1 hi).1
  obtain ⟨j, g, rfl, h4⟩ := h.2 i el _ hi (List.getElem?_eq_getElem (by rw [← h.1]; exact hlt))
  have := (List.getElem?_eq_some_iff.1 h4).1
  simp at hx'; subst hx'
  simp [V.cl, V.cl1, V.cl0]; omega
theorem ics_isD (l : List Int) : ∀ el ∈ ics l, ∀ x ∈ el, x.isD = true := by
  intro el hel x hx
  obtain ⟨a, _, rfl⟩ := List.mem_map.1 hel
  simp at hx; subst hx; rfl
theorem ics_cl (l : List Int) (n : Nat) : ∀ el ∈ ics l, ∀ x ∈ el, x.cl n = true := fun el hel x hx => isD_cl n (ics_isD l el hel x hx)
theorem Held.frz {b : Nat} {base hx : List O} {ls : List (List Int)} {cells : List (List V)} (h : Held b hx ls cells) (hb : base.length = b) : cells.mapM (fun el => el.mapM (frzD (base ++ hx))) = some (ls.map fun l => [isV l]) := by
  induction cells generalizing ls with
  | nil =>
    have := h.1
    simp at this
    obtain rfl := List.length_eq_zero_iff.1 this.symm
    rfl
  | cons c cells ih =>
    have hl := h.1
    cases ls with
    | nil => simp at hl
    | cons l ls =>
      have h0 := h.2 0 c l rfl rfl
      obtain ⟨j, g, rfl, hj⟩ := h0
      have ht : Held b hx ls cells := ⟨by simpa using hl, fun i c x h1 h2 => h.2 (i + 1) c x (by simpa using h1) (by simpa using h2)⟩
      have hg : (base ++ hx)[b + j]? = some (.arr g 1 (ics l)) := by rw [← hb, app_get_r]; exact hj
      have ha : (ics l).all (fun x => x.all V.isD) = true := by
        rw [List.all_eq_true]
        exact fun el hel => List.all_eq_true.2 (ics_isD l el hel)
      have hlen : (ics l).length = l.length := by simp [ics]
      have hfr : frzD (base ++ hx) (.own (b + j) g 0 l.length) = some (isV l) := by
        have ht2 : List.take l.length (ics l) = ics l := List.take_of_length_le (by omega)
        show _ = some (V.l 1 (ics l))
        simp only [frzD, frz0, hg]
        rw [List.drop_zero, ht2, if_pos ⟨trivial, by omega, ha⟩]
      simp [List.mapM_cons, hfr, ih ht]
theorem held_if {b : Nat} {base hx : List O} {ls : List (List Int)} {cells : List (List V)} (h : Held b hx ls cells) (hb : base.length = b) :
    (if ls.length ≤ cells.length then Option.map (V.l 1) (List.mapM (fun el => List.mapM (frzD (base ++ hx)) el) (List.take ls.length cells)) else none) = some (lsV ls) := by
  have h1 := h.frz hb
  have ht : List.take ls.length cells = cells := List.take_of_length_le (by rw [h.1]; exact Nat.le_refl _)
  simp only [ht, h1, h.1, Nat.le_refl, if_true, Option.map_some, lsV]

section
variable {P : Program} (hm : P.follows .mixedOrders = true)
include hm

end
end Go.Abs
set_option linter.unusedVariables false
set_option linter.unusedSimpArgs false
namespace Go.Abs

theorem bl_congr {n : Nat} {g g' : Nat → Bool} (h : ∀ j, j < n → g j = g' j) : bl n g = bl n g' := by
  unfold bl
  exact List.map_congr_left fun j hj => by rw [h j (List.mem_range.1 hj)]
/-- The marks of these vertices. -/
def mk (n : Nat) (done : List Int) : List (List V) := bl n fun j => decide ((j : Int) ∈ done)
theorem mk_nil (n : Nat) : List.replicate n [V.b false] = mk n [] := by rw [bl_rep]; exact bl_congr fun j _ => by simp
theorem mk_set {n : Nat} {d : List Int} {v : Int} (h0 : 0 ≤ v) : (mk n d).set v.toNat [.b true] = mk n (d ++ [v]) := by
  unfold mk
  rw [bl_set]
  refine bl_congr fun j _ => ?_
  by_cases hj : j = v.toNat
  · have : (j : Int) = v := by omega
    simp [hj, show ((v.toNat : Nat) : Int) = v by omega]
  · have : (j : Int) ≠ v := by omega
    simp [hj, this]
theorem mk_get {n : Nat} {d : List Int} {v : Int} (h0 : 0 ≤ v) (h1 : v < n) : (mk n d)[v.toNat]? = some [.b (decide (v ∈ d))] := by
  unfold mk
  rw [bl_get (by omega), show ((v.toNat : Nat) : Int) = v by omega]
theorem mk_cl (n : Nat) (d : List Int) (k : Nat) : ∀ el ∈ mk n d, ∀ x ∈ el, x.cl k = true := bl_cl _ _ _
theorem Flt.app {a b : List O} (h : Flt a) (k : Flt b) : Flt (a ++ b) := fun o ho n => by
  rcases List.mem_append.1 ho with h1 | h1
  · exact h o h1 n
  · exact k o h1 n
theorem Flt.WeakH {hx l : List O} (h : Flt hx) (n : Nat) : WeakH n (hx ++ l) hx := WeakH_self fun o ho => h o ho n
theorem Flt.WeakH' {hx : List O} (h : Flt hx) (n : Nat) : Go.Abs.WeakH n hx hx := by
  have := h.WeakH (l := []) n
  rwa [List.append_nil] at this

section
variable {P : Program} (hm : P.follows .mixedOrders = true)
include hm

end
end Go.Abs
set_option linter.unusedVariables false
set_option linter.unusedSimpArgs false
namespace Go.Abs

section
variable {K β : Type} [DecidableEq K]
def fndG (e : K) : List (K × β) → Option (Nat × β)
  | [] => none
  | (k, n) :: r => if e = k then some (0, n) else (fndG e r).map fun p => (p.1 + 1, p.2)
/-- Keys by their cells: they are compared cell by cell. -/
structure KeyOk (ls : List Nat) (en : K → V) : Prop where
  shape : ∀ a, kshape ls (en a) = true
  len : ∀ a, (en a).cells.length = ls.length
  eq : ∀ a b, veqL ls (en a).cells (en b).cells = some (decide (a = b))

def asG (en : K → V) (ev : β → V) (p : K × β) : V × V := (en p.1, ev p.2)

theorem findE_G {ls : List Nat} {en : K → V} (O : KeyOk ls en) (ev : β → V) (e : K) : ∀ L : List (K × β), findE ls (en e) (L.map (asG en ev)) = some ((fndG e L).map fun p => (p.1, ev p.2))
  | [] => by simp [findE, O.shape, O.len, fndG]
  | (k, n) :: r => by
    simp only [List.map_cons, asG, findE, fndG, O.shape, O.eq, Bool.and_self, if_true]
    by_cases h : e = k
    · simp [h]
    · simp only [h, decide_false, if_false]
      have := findE_G O ev e r
      rw [this]
      cases fndG e r <;> rfl

theorem fndG_none {e : K} : ∀ {L : List (K × β)}, fndG e L = none ↔ e ∉ L.map Prod.fst
  | [] => by simp [fndG]
  | (k, n) :: r => by
    simp only [fndG]
    by_cases h : e = k
    · simp [h]
    · rw [if_neg h, Option.map_eq_none_iff, fndG_none (L := r)]
      simp [h]
theorem fndG_some {e : K} : ∀ {L : List (K × β)} {i : Nat} {n : β}, fndG e L = some (i, n) → L[i]? = some (e, n)
  | [], i, n, h => by simp [fndG] at h
  | (k, m) :: r, i, n, h => by
    simp only [fndG] at h
    by_cases hk : e = k
    · simp [hk] at h; obtain ⟨rfl, rfl⟩ := h; simp [hk]
    · simp only [hk, if_false, Option.map_eq_some_iff, Prod.mk.injEq] at h
      obtain ⟨⟨j, n1⟩, hj, rfl, rfl⟩ := h
      simpa using fndG_some hj
theorem fndG_of_get : ∀ {L : List (K × β)} {i : Nat} {e : K} {n : β}, (L.map Prod.fst).Nodup → L[i]? = some (e, n) → fndG e L = some (i, n)
  | [], i, e, n, _, h => by simp at h
  | (k, m) :: r, 0, e, n, _, h => by simp at h; obtain ⟨rfl, rfl⟩ := h; simp [fndG]
  | (k, m) :: r, i + 1, e, n, hn, h => by
    simp only [List.map_cons, List.nodup_cons] at hn
    simp only [List.getElem?_cons_succ] at h
    have hk : ¬ e = k := by
      rintro rfl
      exact hn.1 (List.mem_map.2 ⟨(e, n), List.mem_of_getElem? h, rfl⟩)
    simp [fndG, hk, fndG_of_get hn.2 h]
theorem fndG_app {e e' : K} {n : β} : ∀ {L : List (K × β)}, fndG e L = none → fndG e' (L ++ [(e, n)]) = if e' = e then some (L.length, n) else fndG e' L
  | [], _ => by simp [fndG]
  | (k, m) :: r, h => by
    simp only [fndG] at h
    by_cases hk : e = k
    · simp [hk] at h
    · simp only [hk, if_false, Option.map_eq_none_iff] at h
      by_cases he : e' = e
      · subst he; simp [fndG, hk, fndG_app h]
      · simp only [List.cons_append, fndG, fndG_app h, he, if_false]
theorem fndG_set {e e' : K} {n' : β} : ∀ {L : List (K × β)} {i : Nat} {n : β}, fndG e L = some (i, n) → fndG e' (L.set i (e, n')) = if e' = e then some (i, n') else fndG e' L
  | [], i, n, h => by simp [fndG] at h
  | (k, m) :: r, i, n, h => by
    simp only [fndG] at h
    by_cases hk : e = k
    · simp [hk] at h; obtain ⟨rfl, rfl⟩ := h
      subst hk
      by_cases he : e' = e <;> simp [fndG, he]
    · simp only [hk, if_false, Option.map_eq_some_iff, Prod.mk.injEq] at h
      obtain ⟨⟨j, n1⟩, hj, rfl, rfl⟩ := h
      have := fndG_set (e' := e') (n' := n') hj
      by_cases he : e' = e
      · subst he; simp [fndG, hk, this]
      · simp only [List.set_cons_succ, fndG, this, he, if_false]
end

theorem key_P2 : KeyOk [1, 1] P2.enc := ⟨fun _ => rfl, fun _ => rfl, veq2⟩
end Go.Abs
set_option linter.unusedVariables false
set_option linter.unusedSimpArgs false
namespace Go.Abs

def kt {K : Type} (en : K → V) (v : K) : V × V := (en v, .b true)
theorem t3c_cl (t : T3) (n : Nat) : (∀ y ∈ t.cs, y.cl n = true) = True := by simp [T3.cs, V.cl, V.cl1, V.cl0]
end Go.Abs
set_option linter.unusedVariables false
set_option linter.unusedSimpArgs false
namespace Go.Abs

def PathTo (nx : Int → Int) (v0 : Int) (w : List Int) (v : Int) : Prop :=
  (w = [] ∧ v = v0) ∨ (w[0]? = some v0 ∧ (∀ (i : Nat) (a b : Int), w[i]? = some a → w[i + 1]? = some b → nx a = b) ∧ ∃ z, w[w.length - 1]? = some z ∧ nx z = v)
theorem PathTo.snoc {nx : Int → Int} {v0 v : Int} {w : List Int} (h : PathTo nx v0 w v) : PathTo nx v0 (w ++ [v]) (nx v) := by
  right
  rcases h with ⟨rfl, rfl⟩ | ⟨h1, h2, z, h3, h4⟩
  · refine ⟨rfl, fun i a b ha hb => ?_, v, rfl, rfl⟩
    simp at hb
  · have hne : 0 < w.length := (List.getElem?_eq_some_iff.1 h1).1
    refine ⟨by rw [List.getElem?_append_left hne]; exact h1, fun i a b ha hb => ?_, v, by simp, rfl⟩
    by_cases hi : i + 1 < w.length
    · rw [List.getElem?_append_left (by omega)] at ha
      rw [List.getElem?_append_left hi] at hb
      exact h2 i a b ha hb
    · have hlt := (List.getElem?_eq_some_iff.1 hb).1
      simp at hlt
      have hi2 : i = w.length - 1 := by omega
      rw [List.getElem?_append_left (by omega), hi2, h3] at ha
      rw [List.getElem?_append_right (by omega), show i + 1 - w.length = 0 by omega] at hb
      simp at ha hb
      subst ha; subst hb; exact h4
end Go.Abs
set_option linter.unusedVariables false
set_option linter.unusedSimpArgs false
namespace Go.Abs

theorem edgesL_len {m : Mesh} : m.edgesL.length ≤ 12288 := by
  by_cases hz : m.check = 0
  · have hn : m.edgesL.Nodup := by
      unfold Mesh.edgesL; rw [if_pos hz]
      exact (ascOf_asc _).imp fun h1 h2 => by subst h2; exact P2.lt_irrefl _ h1
    have h1 := nodupP_len (k := (alluses m.tris).map P2.und) hn (fun a ha => by unfold Mesh.edgesL at ha; rw [if_pos hz] at ha; exact mem_ascOf.1 ha)
    have hE := alluses_len m.tris m.tris.length
    rw [List.take_length] at hE
    rw [List.length_map] at h1
    have := (Mesh.check_zero.1 hz).2.1
    omega
  · simp [Mesh.edgesL, hz]
section
variable {P : Program} (hm : P.follows .mixedOrders = true)
include hm

end
end Go.Abs
set_option linter.unusedVariables false
set_option linter.unusedSimpArgs false
namespace Go.Abs

def adjT (s t : T3) : Prop := ∃ a ∈ edgesOf s, ∃ b ∈ edgesOf t, a.und = b.und
def adjI (ts : List T3) (i j : Nat) : Prop := ∃ s t, ts[i]? = some s ∧ ts[j]? = some t ∧ adjT s t
theorem adjI.symm {ts : List T3} {i j : Nat} (h : adjI ts i j) : adjI ts j i := by
  obtain ⟨s, t, h1, h2, a, ha, b, hb, h3⟩ := h
  exact ⟨t, s, h2, h1, b, hb, a, ha, h3.symm⟩
inductive Conn (ts : List T3) : Nat → Nat → Prop where
  | refl {i : Nat} : i < ts.length → Conn ts i i
  | tail {i j k : Nat} : Conn ts i j → adjI ts j k → Conn ts i k
theorem adjI.lt {ts : List T3} {i j : Nat} (h : adjI ts i j) : i < ts.length ∧ j < ts.length := by
  obtain ⟨s, t, h1, h2, _⟩ := h
  exact ⟨(List.getElem?_eq_some_iff.1 h1).1, (List.getElem?_eq_some_iff.1 h2).1⟩
theorem Conn.lt {ts : List T3} {i j : Nat} (h : Conn ts i j) : i < ts.length ∧ j < ts.length := by
  induction h with
  | refl h => exact ⟨h, h⟩
  | tail _ h2 ih => exact ⟨ih.1, h2.lt.2⟩
theorem Conn.head {ts : List T3} {i j k : Nat} (h : adjI ts i j) (h2 : Conn ts j k) : Conn ts i k := by
  induction h2 with
  | refl _ => exact .tail (.refl h.lt.1) h
  | tail _ h3 ih => exact .tail ih h3
theorem Conn.symm {ts : List T3} {i j : Nat} (h : Conn ts i j) : Conn ts j i := by
  induction h with
  | refl h => exact .refl h
  | tail _ h2 ih => exact .head h2.symm ih
theorem Conn.trans {ts : List T3} {i j k : Nat} (h : Conn ts i j) (h2 : Conn ts j k) : Conn ts i k := by
  induction h2 with
  | refl _ => exact h
  | tail _ h3 ih => exact .tail ih h3
/-- Every triangle bears the least index of its shell. -/
structure IsLab (ts : List T3) (L : List Int) : Prop where
  len : L.length = ts.length
  con : ∀ (i : Nat) (v : Int), L[i]? = some v → 0 ≤ v ∧ v ≤ i ∧ Conn ts i v.toNat
  adj : ∀ i j, adjI ts i j → L[i]? = L[j]?
theorem IsLab.conn {ts : List T3} {L : List Int} (h : IsLab ts L) {i j : Nat} (hc : Conn ts i j) : L[i]? = L[j]? := by
  induction hc with
  | refl _ => rfl
  | tail _ h2 ih => rw [ih]; exact h.adj _ _ h2
theorem IsLab.le {ts : List T3} {L K : List Int} (h : IsLab ts L) (k : IsLab ts K) {i : Nat} {v u : Int} (h1 : L[i]? = some v) (h2 : K[i]? = some u) : u ≤ v := by
  obtain ⟨a1, a2, a3⟩ := h.con i v h1
  have h3 := k.conn a3
  rw [h2] at h3
  have := (k.con v.toNat u h3.symm).2.1
  omega
theorem IsLab.eq {ts : List T3} {L K : List Int} (h : IsLab ts L) (k : IsLab ts K) : L = K := by
  apply List.ext_getElem?
  intro i
  by_cases hi : i < ts.length
  · have h1 : L[i]? = some (L[i]'(by rw [h.len]; exact hi)) := List.getElem?_eq_getElem _
    have h2 : K[i]? = some (K[i]'(by rw [k.len]; exact hi)) := List.getElem?_eq_getElem _
    have a := h.le k h1 h2
    have b := k.le h h2 h1
    rw [h1, h2]; congr 1; omega
  · rw [List.getElem?_eq_none (by rw [h.len]; omega), List.getElem?_eq_none (by rw [k.len]; omega)]
open Classical in
noncomputable def labOf (ts : List T3) : List Int := if h : ∃ L, IsLab ts L then Classical.choose h else []
theorem labOf_eq {ts : List T3} {L : List Int} (h : IsLab ts L) : labOf ts = L := by
  unfold labOf
  rw [dif_pos ⟨L, h⟩]
  exact (Classical.choose_spec (⟨L, h⟩ : ∃ L, IsLab ts L)).eq h
/-- The members of a shell among the first. -/
def shK (L : List Int) (i k : Nat) : List Int := ((List.range k).filter fun j => decide (L[j]? = some (i : Int))).map fun (j : Nat) => (j : Int)
def shsK (L : List Int) (k : Nat) : List (List Int) := ((List.range k).filter fun (i : Nat) => decide (L[i]? = some (i : Int))).map fun i => shK L i L.length
noncomputable def Mesh.shells (m : Mesh) : List (List Int) := if m.check = 0 then shsK (labOf m.tris) (labOf m.tris).length else []
def ShellsC (P : Program) (f : FuncId) : Prop := ∀ m : Mesh, CallIs P f [m.enc] (lsV m.shells)
theorem shK_succ (L : List Int) (i k : Nat) : shK L i (k + 1) = shK L i k ++ if L[k]? = some (i : Int) then [(k : Int)] else [] := by
  unfold shK
  rw [List.range_succ, List.filter_append, List.map_append]
  by_cases h : L[k]? = some (i : Int) <;> simp [h]
theorem shsK_succ (L : List Int) (k : Nat) : shsK L (k + 1) = shsK L k ++ if L[k]? = some (k : Int) then [shK L k L.length] else [] := by
  unfold shsK
  rw [List.range_succ, List.filter_append, List.map_append]
  by_cases h : L[k]? = some (k : Int) <;> simp [h]
/-- A shell's members do not come before its name. -/
theorem shK_low {ts : List T3} {L : List Int} (h : IsLab ts L) (i : Nat) : shK L i i = [] := by
  unfold shK
  rw [List.map_eq_nil_iff, List.filter_eq_nil_iff]
  intro j hj
  have hj := List.mem_range.1 hj
  simp only [decide_eq_true_eq]
  intro hh
  have := (h.con j i hh).2.1
  omega
/-- What is known of the labels while they spread. -/
structure PreLab (ts : List T3) (L : List Int) : Prop where
  len : L.length = ts.length
  con : ∀ (i : Nat) (v : Int), L[i]? = some v → 0 ≤ v ∧ v ≤ i ∧ Conn ts i v.toNat
def near (ts : List T3) (i j : Nat) : Prop := j = i ∨ adjI ts i j
structure Spread (ts : List T3) (L K : List Int) : Prop where
  len : K.length = ts.length
  att : ∀ (i : Nat) (v : Int), K[i]? = some v → ∃ j, near ts i j ∧ L[j]? = some v
  low : ∀ (i j : Nat) (v u : Int), K[i]? = some v → near ts i j → L[j]? = some u → v ≤ u
theorem PreLab.spread {ts : List T3} {L K : List Int} (h : PreLab ts L) (s : Spread ts L K) : PreLab ts K where
  len := s.len
  con i v hv := by
    obtain ⟨j, hj, hjv⟩ := s.att i v hv
    obtain ⟨c1, c2, c3⟩ := h.con j v hjv
    have hi : i < L.length := by rw [h.len, ← s.len]; exact (List.getElem?_eq_some_iff.1 hv).1
    have hle := s.low i i v L[i] hv (.inl rfl) (List.getElem?_eq_getElem hi)
    have hci := (h.con i L[i] (List.getElem?_eq_getElem hi)).2.1
    refine ⟨c1, by omega, ?_⟩
    rcases hj with rfl | hj
    · exact c3
    · exact .head hj c3
theorem Spread.fix {ts : List T3} {L : List Int} (h : PreLab ts L) (s : Spread ts L L) : IsLab ts L where
  len := h.len
  con := h.con
  adj i j hij := by
    have h1 : L[i]? = some (L[i]'(by rw [h.len]; exact hij.lt.1)) := List.getElem?_eq_getElem _
    have h2 : L[j]? = some (L[j]'(by rw [h.len]; exact hij.lt.2)) := List.getElem?_eq_getElem _
    have a := s.low i j _ _ h1 (.inr hij) h2
    have b := s.low j i _ _ h2 (.inr hij.symm) h1
    rw [h1, h2]; congr 1; omega
def sumN (L : List Int) : Nat := (L.map Int.toNat).sum
theorem sumN_lt : ∀ {L K : List Int}, K.length = L.length → (∀ (i : Nat) (v u : Int), K[i]? = some v → L[i]? = some u → v ≤ u ∧ 0 ≤ v) → K ≠ L → sumN K < sumN L
  | [], [], _, _, h => absurd rfl h
  | [], _ :: _, h, _, _ => by simp at h
  | _ :: _, [], h, _, _ => by simp at h
  | l :: L, k :: K, hl, hle, hne => by
    have h0 := hle 0 k l rfl rfl
    have ht : ∀ (i : Nat) (v u : Int), K[i]? = some v → L[i]? = some u → v ≤ u ∧ 0 ≤ v := fun i v u h1 h2 => hle (i + 1) v u (by simpa using h1) (by simpa using h2)
    simp only [List.length_cons, Nat.add_right_cancel_iff] at hl
    simp only [sumN, List.map_cons, List.sum_cons]
    by_cases hkl : K = L
    · subst hkl
      have : k ≠ l := fun h => hne (by rw [h])
      omega
    · have := sumN_lt hl ht hkl
      unfold sumN at this
      omega
theorem Spread.sum {ts : List T3} {L K : List Int} (h : PreLab ts L) (s : Spread ts L K) (hne : K ≠ L) : sumN K < sumN L :=
  sumN_lt (by rw [s.len, h.len]) (fun i v u h1 h2 => ⟨s.low i i v u h1 (.inl rfl) h2, ((h.spread s).con i v h1).1⟩) hne
theorem pre_id (ts : List T3) : PreLab ts ((List.range ts.length).map fun (j : Nat) => (j : Int)) where
  len := by simp
  con i v hv := by
    rw [List.getElem?_map, Option.map_eq_some_iff] at hv
    obtain ⟨j, hj, rfl⟩ := hv
    obtain ⟨h1, h2⟩ := List.getElem?_eq_some_iff.1 hj
    simp at h1 h2
    subst h2
    exact ⟨by omega, by omega, by rw [Int.toNat_natCast]; exact .refl h1⟩
end Go.Abs
