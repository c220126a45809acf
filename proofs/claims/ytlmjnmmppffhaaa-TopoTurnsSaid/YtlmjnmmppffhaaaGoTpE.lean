/- Part of the abstract machine on which the proof stands: its values, code and their soundness against the model. -/
import Derived.Test.YtlmjnmmppffhaaaGoTpB
set_option linter.unusedVariables false
set_option linter.unusedSimpArgs false
namespace Go.Abs

def cntL (E : List P2) : List Use := E.foldl bumpU []
theorem cntL_snoc (E : List P2) (e : P2) : cntL (E ++ [e]) = bumpU (cntL E) e := by simp [cntL]
theorem cntL_ok (E : List P2) : Cnt (cntL E) E := by
  refine rev_ind (p := fun E => Cnt (cntL E) E) Cnt.nil ?_ E
  intro E x ih
  rw [cntL_snoc]
  exact ih.bump x
def CountsC (P : Program) (f : FuncId) : Prop := ∀ m : Mesh, m.check = 0 → CallIs P f [m.enc] (useV (cntL (alluses m.tris)))
theorem uCs_cl (l : List Use) (n : Nat) : ∀ el ∈ l.map uCs, ∀ x ∈ el, x.cl n = true := fun el hel x hx => isD_cl n (uCs_isD l el hel x hx)
theorem uCs_cl' (n : Nat) : (∀ (u : Use), ∀ x ∈ uCs u, x.cl n = true) := fun u x hx => uCs_cl [u] n (uCs u) (by simp) x hx

theorem uCs_cl2 (L : List Use) (n : Nat) : ∀ (el : List V) (x : P2) (y : Int), (x, y) ∈ L → uCs (x, y) = el → ∀ z ∈ el, z.cl n = true := by
  rintro _ x y _ rfl z hz; exact uCs_cl' n (x, y) z hz
theorem uCs_isD2 (L : List Use) : ∀ (el : List V) (x : P2) (y : Int), (x, y) ∈ L → uCs (x, y) = el → ∀ z ∈ el, z.isD = true := by
  rintro _ x y _ rfl z hz; exact uCs_isD [(x, y)] (uCs (x, y)) (by simp) z hz

theorem own_if {els : List (List V)} {g n sz : Nat} (hn : els.length = n) (hd : ∀ el ∈ els, ∀ x ∈ el, x.isD = true) :
    (if g = g ∧ 0 + n ≤ els.length ∧ ((List.take n (List.drop 0 els)).all fun x => x.all V.isD) = true then some (V.l sz els) else none) = some (V.l sz els) := by
  subst hn
  have h3 : ((List.take els.length (List.drop 0 els)).all fun x => x.all V.isD) = true := by
    rw [List.drop_zero, List.take_length, List.all_eq_true]
    exact fun el hel => List.all_eq_true.2 (hd el hel)
  rw [if_pos ⟨rfl, by omega, h3⟩]

section
variable {P : Program} (hm : P.follows .mixedOrders = true)
include hm

set_option maxHeartbeats 4000000 in
theorem ref10_counts_ok {f fd fw fp : FuncId} (hf : FnOk P f (ref10_counts.c fd fw fp) ref10_counts.r ref10_counts.n) (hd : EdgesC P fd) (hw : WithC P fw) (hpl : PlaceC P fp) : CountsC P f := by
  intro m hz
  refine PureC.is (pure_of hm hf (Nat.le_of_ble_eq_true rfl) ?_) rfl
  unfold ref10_counts.c
  have hl := (Mesh.check_zero.1 hz).2.1
  simp [go_sem, Mesh.enc, Mesh.cs, tsV]
  refine AS_loopG [.t 3 3] (α := Nat) (fun k => k ≤ m.tris.length)
    (fun k => ⟨[(3, .own 1 ((cntL (alluses (m.tris.take k))).length + 1) 0 (cntL (alluses (m.tris.take k))).length), (9, tsV m.tris), (10, .i .i64 m.tris.length), (11, .i .i64 k)],
      [.dead, .arr ((cntL (alluses (m.tris.take k))).length + 1) 3 ((cntL (alluses (m.tris.take k))).map uCs)]⟩)
    (fun k => m.tris.length - k) 0 (by omega) ?_ ?_
  · simp [go_sem, tsV, alluses, cntL]
  · intro k hk
    by_cases hkl : k = m.tris.length
    · subst hkl
      rw [List.take_length]
      simp [go_sem, tsV, ref10_counts.r, useV]
      rw [own_if (by simp) (uCs_isD _)]; rfl
    · have hlt : k < m.tris.length := by omega
      have hp : m.tris[k]? = some m.tris[k] := List.getElem?_eq_getElem hlt
      generalize m.tris[k] = t at hp
      obtain ⟨_, hp'⟩ := List.getElem?_eq_some_iff.1 hp
      simp [go_sem, tsV, hlt, hp', tcs]
      refine ACall_is (hd t) ?_
      have hlen : (edgesOf t).length ≤ 3 := edgesK_le t 3
      have hE := alluses_len m.tris k
      have hsuc := alluses_succ hp
      generalize hA : alluses (m.tris.take k) = A0 at *
      simp [go_sem, psV]
      refine AS_loop (α := Nat) (fun j => j ≤ (edgesOf t).length)
        (fun j => ⟨[(3, .own 1 ((cntL (A0 ++ (edgesOf t).take j)).length + 1) 0 (cntL (A0 ++ (edgesOf t).take j)).length), (9, tsV m.tris), (10, .i .i64 m.tris.length), (11, .i .i64 k), (16, psV (edgesOf t)), (17, .i .i64 (edgesOf t).length), (18, .i .i64 j)],
          [.dead, .arr ((cntL (A0 ++ (edgesOf t).take j)).length + 1) 3 ((cntL (A0 ++ (edgesOf t).take j)).map uCs)]⟩)
        (fun j => (edgesOf t).length - j) 0 (by omega) ?_ ?_
      · simp [go_sem, tsV, psV]
        exact uCs_cl2 _ _
      · intro j hj
        by_cases hjl : j = (edgesOf t).length
        · subst hjl
          rw [List.take_length, ← hsuc]
          simp (disch := omega) [go_sem, tsV, psV, wrap64_small]
          exact ⟨k + 1, by omega, by omega, by simp, ⟨rfl, rfl⟩, uCs_cl2 _ _⟩
        · have hjlt : j < (edgesOf t).length := by omega
          have hq : (edgesOf t)[j]? = some (edgesOf t)[j] := List.getElem?_eq_getElem hjlt
          have htk : (edgesOf t).take (j + 1) = (edgesOf t).take j ++ [(edgesOf t)[j]] := by rw [List.take_add_one, hq]; rfl
          generalize (edgesOf t)[j] = e at hq htk
          obtain ⟨_, hq'⟩ := List.getElem?_eq_some_iff.1 hq
          have hS1 : A0 ++ (edgesOf t).take (j + 1) = (A0 ++ (edgesOf t).take j) ++ [e] := by rw [htk, ← List.append_assoc]
          have hSl : (A0 ++ (edgesOf t).take j).length ≤ 3 * 4096 + 3 := by rw [List.length_append, List.length_take]; omega
          generalize hS : A0 ++ (edgesOf t).take j = S at hS1 hSl
          have hT1 := cntL_snoc S e
          rw [← hS1] at hT1
          have hC := cntL_ok S
          have hCl := hC.len
          generalize cntL S = L at hT1 hC hCl
          have hWl : (withU L e).length ≤ L.length + 1 := by
            unfold withU; split
            · omega
            · have := pl_le L e; simp; omega
          simp [go_sem, psV, hjlt, hq', pcs]
          refine ACall_to (hw L e hC.1 (by omega) _ 1 rfl) ?_
          simp [go_sem, psV]
          have hWa := withU_asc hC.1 e
          have hWg := withU_get hC.1 e
          have hWn := withU_num hC e
          have hcl : S.count e ≤ S.length := List.count_le_length
          have hbl : (bumpU L e).length = (withU L e).length := by simp [bumpU]
          have hbm : (bumpU L e).map uCs = ((withU L e).map uCs).set (pl (withU L e) e) [.i .i64 e.x, .i .i64 e.y, .i .i64 (numU (withU L e) e + 1)] := by
            simp only [bumpU, List.map_set]; rfl
          generalize withU L e = W at *
          refine ACall_lend (vs := [useV W, e.enc]) ?_ ((hpl W e hWa (by omega)) []) rfl ?_
          · exact frzAll_own rfl (by simp) (uCs_isD W) (by simp [frzAll, frz, frz0, P2.enc, pcs])
          generalize numU W e = n at *
          generalize pl W e = i at *
          obtain ⟨hil, hWg'⟩ := List.getElem?_eq_some_iff.1 hWg
          simp (disch := omega) [go_sem, psV, hWg, hWg', hil, useCs, wrap64_small]
          exact ⟨j + 1, by omega, by omega, ⟨by rw [hT1, hbl], .inr rfl, by simp⟩, ⟨by rw [hT1, hbl], by rw [hT1, hbm]⟩, uCs_cl2 _ _⟩

end
def undL (E : List P2) : List Use := E.foldl withU []
theorem undL_snoc (E : List P2) (e : P2) : undL (E ++ [e]) = withU (undL E) e := by simp [undL]
theorem undL_ok (E : List P2) : ascU (undL E) ∧ (∀ e n, (e, n) ∈ undL E ↔ e ∈ E ∧ n = 0) ∧ (undL E).length ≤ E.length := by
  refine rev_ind (p := fun E => ascU (undL E) ∧ (∀ e n, (e, n) ∈ undL E ↔ e ∈ E ∧ n = 0) ∧ (undL E).length ≤ E.length) ?_ ?_ E
  · simp [undL, ascU]
  · rintro E x ⟨h1, h2, h3⟩
    rw [undL_snoc]
    refine ⟨withU_asc h1 x, fun e n => ?_, ?_⟩
    · rw [mem_withU h1, h2]
      constructor
      · rintro (⟨h, rfl⟩ | ⟨h, hh⟩)
        · exact ⟨by simp [h], rfl⟩
        · simp only [Prod.mk.injEq] at h
          obtain ⟨rfl, rfl⟩ := h
          exact ⟨by simp, rfl⟩
      · rintro ⟨h, rfl⟩
        rw [List.mem_append, List.mem_singleton] at h
        by_cases hE : e ∈ E
        · exact .inl ⟨hE, rfl⟩
        · obtain rfl : e = x := h.resolve_left hE
          refine .inr ⟨rfl, ?_⟩
          rw [Bool.eq_false_iff]
          intro hh
          obtain ⟨n, hn⟩ := (hasU_iff h1).1 hh
          exact hE ((h2 e n).1 hn).1
    · unfold withU; split
      · simp; omega
      · have := pl_le (undL E) x
        simp; omega
def UndirC (P : Program) (f : FuncId) : Prop := ∀ m : Mesh, m.check = 0 → NewC P f [m.enc] (fun r h => r = .own 1 ((undL ((alluses m.tris).map P2.und)).length + 1) 0 (undL ((alluses m.tris).map P2.und)).length ∧
  h = [.dead, .arr ((undL ((alluses m.tris).map P2.und)).length + 1) 3 ((undL ((alluses m.tris).map P2.und)).map uCs)])

section
variable {P : Program} (hm : P.follows .mixedOrders = true)
include hm

set_option maxHeartbeats 4000000 in
theorem ref10_undirected_ok {f fd fu fw : FuncId} (hf : FnOk P f (ref10_undirected.c fd fu fw) ref10_undirected.r ref10_undirected.n) (hd : EdgesC P fd) (hu : UndC P fu) (hw : WithC P fw) : UndirC P f := by
  intro m hz
  refine new_of hm hf (Nat.le_of_ble_eq_true rfl) ?_
  unfold ref10_undirected.c
  have hl := (Mesh.check_zero.1 hz).2.1
  simp [go_sem, Mesh.enc, Mesh.cs, tsV]
  refine AS_loopG [.t 3 3] (α := Nat) (fun k => k ≤ m.tris.length)
    (fun k => ⟨[(3, .own 1 ((undL ((alluses (m.tris.take k)).map P2.und)).length + 1) 0 (undL ((alluses (m.tris.take k)).map P2.und)).length), (9, tsV m.tris), (10, .i .i64 m.tris.length), (11, .i .i64 k)],
      [.dead, .arr ((undL ((alluses (m.tris.take k)).map P2.und)).length + 1) 3 ((undL ((alluses (m.tris.take k)).map P2.und)).map uCs)]⟩)
    (fun k => m.tris.length - k) 0 (by omega) ?_ ?_
  · simp [go_sem, tsV, alluses, undL]
  · intro k hk
    by_cases hkl : k = m.tris.length
    · subst hkl
      rw [List.take_length]
      simp [go_sem, tsV, ref10_undirected.r]
      exact uCs_cl2 _ _
    · have hlt : k < m.tris.length := by omega
      have hp : m.tris[k]? = some m.tris[k] := List.getElem?_eq_getElem hlt
      generalize m.tris[k] = t at hp
      obtain ⟨_, hp'⟩ := List.getElem?_eq_some_iff.1 hp
      simp [go_sem, tsV, hlt, hp', tcs]
      refine ACall_is (hd t) ?_
      have hlen : (edgesOf t).length ≤ 3 := edgesK_le t 3
      have hE := alluses_len m.tris k
      have hsuc := alluses_succ hp
      generalize hA : alluses (m.tris.take k) = A0 at *
      simp [go_sem, psV]
      refine AS_loop (α := Nat) (fun j => j ≤ (edgesOf t).length)
        (fun j => ⟨[(3, .own 1 ((undL ((A0 ++ (edgesOf t).take j).map P2.und)).length + 1) 0 (undL ((A0 ++ (edgesOf t).take j).map P2.und)).length), (9, tsV m.tris), (10, .i .i64 m.tris.length), (11, .i .i64 k), (16, psV (edgesOf t)), (17, .i .i64 (edgesOf t).length), (18, .i .i64 j)],
          [.dead, .arr ((undL ((A0 ++ (edgesOf t).take j).map P2.und)).length + 1) 3 ((undL ((A0 ++ (edgesOf t).take j).map P2.und)).map uCs)]⟩)
        (fun j => (edgesOf t).length - j) 0 (by omega) ?_ ?_
      · simp [go_sem, tsV, psV]
        exact uCs_cl2 _ _
      · intro j hj
        by_cases hjl : j = (edgesOf t).length
        · subst hjl
          rw [List.take_length, ← hsuc]
          simp (disch := omega) [go_sem, tsV, psV, wrap64_small]
          exact ⟨k + 1, by omega, by omega, by simp, ⟨rfl, rfl⟩, uCs_cl2 _ _⟩
        · have hjlt : j < (edgesOf t).length := by omega
          have hq : (edgesOf t)[j]? = some (edgesOf t)[j] := List.getElem?_eq_getElem hjlt
          have htk : (edgesOf t).take (j + 1) = (edgesOf t).take j ++ [(edgesOf t)[j]] := by rw [List.take_add_one, hq]; rfl
          generalize (edgesOf t)[j] = e at hq htk
          obtain ⟨_, hq'⟩ := List.getElem?_eq_some_iff.1 hq
          have hS1 : (A0 ++ (edgesOf t).take (j + 1)).map P2.und = (A0 ++ (edgesOf t).take j).map P2.und ++ [e.und] := by rw [htk, ← List.append_assoc, List.map_append (l₂ := [e])]; rfl
          have hSl : ((A0 ++ (edgesOf t).take j).map P2.und).length ≤ 3 * 4096 + 3 := by rw [List.length_map, List.length_append, List.length_take]; omega
          generalize hS : (A0 ++ (edgesOf t).take j).map P2.und = S at hS1 hSl
          have hT1 := undL_snoc S e.und
          rw [← hS1] at hT1
          have hC := undL_ok S
          generalize undL S = L at hT1 hC
          simp [go_sem, psV, hjlt, hq', pcs]
          refine ACall_is (hu e) ?_
          simp [go_sem, psV]
          refine ACall_to (hw L e.und hC.1 (by omega) _ 1 rfl) ?_
          simp (disch := omega) [go_sem, psV, wrap64_small]
          rw [List.map_append, List.map_take] at hT1
          exact ⟨j + 1, by omega, by omega, ⟨by rw [hT1], .inr rfl, by simp⟩, ⟨by rw [hT1], by rw [hT1]⟩, uCs_cl2 _ _⟩
end
end Go.Abs

set_option linter.unusedVariables false
set_option linter.unusedSimpArgs false
namespace Go.Abs

def Mesh.edgesL (m : Mesh) : List P2 := if m.check = 0 then ascOf ((alluses m.tris).map P2.und) else []
def EdgesLC (P : Program) (f : FuncId) : Prop := ∀ m : Mesh, CallIs P f [m.enc] (psV m.edgesL)
theorem sh_uCs (L : List Use) (g n : Nat) : (O.arr g 3 (L.map uCs)).sh n = .arr g 3 (L.map uCs) := by
  have h : ∀ u : Use, (uCs u).map (V.sh1 n) = uCs u := fun u => by simp [uCs, V.sh1, V.sh0]
  simp only [O.sh, List.map_map, Function.comp_def, h]
theorem psV_nil : Le .nil (psV []) := .inl (.inl (Le0.nil 2))
theorem und_asc (E : List P2) : asc ((undL E).map Prod.fst) := by
  have h := (undL_ok E).1
  unfold ascU at h
  unfold asc
  rw [List.pairwise_map]
  exact h
theorem und_keys (E : List P2) : (undL E).map Prod.fst = ascOf E := by
  refine asc_ext (und_asc E) (ascOf_asc _) fun a => ?_
  rw [mem_ascOf, List.mem_map]
  have h := (undL_ok E).2.1
  constructor
  · rintro ⟨⟨x, n⟩, h1, rfl⟩; exact ((h x n).1 h1).1
  · intro h1; exact ⟨(a, 0), (h a 0).2 ⟨h1, rfl⟩, rfl⟩
theorem take_succ_get {α : Type} {l : List α} {k : Nat} {x : α} (h : l[k]? = some x) : l.take (k + 1) = l.take k ++ [x] := by rw [List.take_add_one, h]; rfl
def keysK (L : List Use) (k : Nat) : List P2 := (L.take k).map Prod.fst
theorem keysK_len {L : List Use} {k : Nat} (h : k ≤ L.length) : (keysK L k).length = k := by simp [keysK]; omega
theorem keysK_succ {L : List Use} {k : Nat} {u : Use} (h : L[k]? = some u) : keysK L (k + 1) = keysK L k ++ [u.1] := by unfold keysK; rw [take_succ_get h, List.map_append]; rfl
def bordU (L : List Use) (k : Nat) : List P2 := ((L.take k).filter fun u => decide (numU L u.1.rev < u.2)).map Prod.fst
theorem bordU_len (L : List Use) (k : Nat) : (bordU L k).length ≤ k := by
  unfold bordU
  rw [List.length_map]
  have := List.length_filter_le (fun u : Use => decide (numU L u.1.rev < u.2)) (L.take k)
  rw [List.length_take] at this; omega
theorem bordU_succ {L : List Use} {k : Nat} {u : Use} (h : L[k]? = some u) : bordU L (k + 1) = bordU L k ++ if numU L u.1.rev < u.2 then [u.1] else [] := by
  unfold bordU
  rw [take_succ_get h, List.filter_append, List.map_append]
  by_cases h : numU L u.1.rev < u.2 <;> simp [h]

section
variable {P : Program} (hm : P.follows .mixedOrders = true)
include hm

set_option maxHeartbeats 1000000 in
theorem ref10_Edges_ok {f fc fu : FuncId} (hf : FnOk P f (ref10_Edges.c fc fu) ref10_Edges.r ref10_Edges.n) (hc : CheckC P fc) (hu : UndirC P fu) : EdgesLC P f := by
  intro m
  by_cases hz : m.check = 0
  case neg =>
    have he : m.edgesL = [] := by simp [Mesh.edgesL, hz]
    rw [he]
    refine CallIs.res (r := .nil) ?_ psV_nil
    refine PureC.is (pure_of hm hf (Nat.le_of_ble_eq_true rfl) ?_) rfl
    unfold ref10_Edges.c
    simp [go_sem, Mesh.enc, Mesh.cs]
    refine ACall_is (hc m) ?_
    simp [go_sem, hz, ref10_Edges.r]
  have he : m.edgesL = (undL ((alluses m.tris).map P2.und)).map Prod.fst := by rw [und_keys]; simp [Mesh.edgesL, hz]
  rw [he]
  have hl := (Mesh.check_zero.1 hz).2.1
  have hU := undL_ok ((alluses m.tris).map P2.und)
  have hE := alluses_len m.tris m.tris.length
  rw [List.take_length] at hE
  have hUl := hU.2.2
  rw [List.length_map] at hUl
  refine PureC.is (pure_of hm hf (Nat.le_of_ble_eq_true rfl) ?_) rfl
  unfold ref10_Edges.c
  have hu1 := hu m hz
  generalize undL ((alluses m.tris).map P2.und) = L at hUl hu1
  simp [go_sem, Mesh.enc, Mesh.cs]
  refine ACall_is (hc m) ?_
  simp [go_sem, hz]
  refine ACall_new hu1 rfl ?_
  simp only [List.map_cons, List.map_nil, sh_uCs]
  simp [go_sem]
  refine AS_loopG [.t 3 2] (α := Nat) (fun k => k ≤ L.length)
    (fun k => ⟨[(3, .own 3 (k + 1) 0 k), (10, .own 2 (L.length + 1) 0 L.length), (11, .i .i64 L.length), (12, .i .i64 k)],
      [.dead, .dead, .arr (L.length + 1) 3 (L.map uCs), .arr (k + 1) 2 ((keysK L k).map P2.cs)]⟩)
    (fun k => L.length - k) 0 (Nat.zero_le _) ?_ ?_
  · simp [go_sem, keysK]
    exact uCs_cl2 _ _
  · intro k hk
    by_cases hkl : k = L.length
    · subst hkl
      have hk : L.map Prod.fst = keysK L L.length := by unfold keysK; rw [List.take_length]
      have hkl2 := keysK_len (Nat.le_refl L.length)
      have ht : List.take L.length ((keysK L L.length).map P2.cs) = (keysK L L.length).map P2.cs := List.take_of_length_le (by simp [hkl2])
      rw [hk]
      generalize keysK L L.length = R at *
      simp [go_sem, ref10_Edges.r, psV, p2_isD, hkl2, ht]
    · have hlt : k < L.length := by omega
      have hp : L[k]? = some L[k] := List.getElem?_eq_getElem hlt
      generalize L[k] = u at hp
      obtain ⟨_, hp'⟩ := List.getElem?_eq_some_iff.1 hp
      have hts := keysK_succ hp
      have hkl2 := keysK_len (L := L) (k := k) (by omega)
      have ht : List.take k ((keysK L k).map P2.cs) = (keysK L k).map P2.cs := List.take_of_length_le (by simp [hkl2])
      generalize keysK L k = R at *
      simp (disch := omega) [go_sem, hlt, hp, hp', useCs, wrap64_small, hkl2, ht]
      exact ⟨⟨by omega, by omega⟩, k + 1, by omega, by omega, by simp, uCs_cl2 _ _, ⟨rfl, by rw [hts, List.map_append]; rfl⟩, of_eq_true (p2_cla _ _)⟩

theorem ref10_Uses_ok {f fc fn fr fb : FuncId} (hf : FnOk P f (ref10_Uses.c fc fn fb fr) ref10_Uses.r ref10_Uses.n) (hc : CheckC P fc) (hn : CountsC P fn) (hr : RevC P fr) (hb : NumberC P fb) : UsesC P f := by
  intro m e
  refine PureC.is (pure_of hm hf (Nat.le_of_ble_eq_true rfl) ?_) rfl
  unfold ref10_Uses.c
  simp [go_sem, Mesh.enc, Mesh.cs, P2.enc, P2.cs]
  refine ACall_is (hc m) ?_
  by_cases hz : m.check = 0
  case neg => simp [go_sem, hz, ref10_Uses.r, Mesh.use]
  have hl := (Mesh.check_zero.1 hz).2.1
  have hE := alluses_len m.tris m.tris.length
  rw [List.take_length] at hE
  have hC := cntL_ok (alluses m.tris)
  have hCl := hC.len
  simp [go_sem, hz]
  refine ACall_is (hn m hz) ?_
  have u1 : m.use e = (alluses m.tris).count e := by simp [Mesh.use, hz]
  have u2 : m.use e.rev = (alluses m.tris).count e.rev := by simp [Mesh.use, hz]
  rw [u1, u2, ← hC.num, ← hC.num]
  generalize cntL (alluses m.tris) = L at *
  have h1 := hb L e hC.1 (by omega)
  have h2 := hb L e.rev hC.1 (by omega)
  simp only [P2.enc, P2.cs, useV] at h1 h2
  simp [go_sem, useV]
  refine DCall_is h1 ?_
  simp [go_sem]
  refine DCall_is (hr e) ?_
  simp [go_sem, P2.enc, P2.cs]
  refine DCall_is h2 ?_
  simp [go_sem, ref10_Uses.r]

set_option maxHeartbeats 1000000 in
theorem ref10_Boundary_ok {f fc fn fr fb : FuncId} (hf : FnOk P f (ref10_Boundary.c fc fn fr fb) ref10_Boundary.r ref10_Boundary.n) (hc : CheckC P fc) (hn : CountsC P fn) (hr : RevC P fr) (hb : NumberC P fb) : BoundaryC P f := by
  intro m
  by_cases hz : m.check = 0
  case neg =>
    have he : m.border = [] := by simp [Mesh.border, hz]
    rw [he]
    refine CallIs.res (r := .nil) ?_ psV_nil
    refine PureC.is (pure_of hm hf (Nat.le_of_ble_eq_true rfl) ?_) rfl
    unfold ref10_Boundary.c
    simp [go_sem, Mesh.enc, Mesh.cs]
    refine ACall_is (hc m) ?_
    simp [go_sem, hz, ref10_Boundary.r]
  have hl := (Mesh.check_zero.1 hz).2.1
  have hE := alluses_len m.tris m.tris.length
  rw [List.take_length] at hE
  have hC := cntL_ok (alluses m.tris)
  have hCl := hC.len
  have hB : m.border = ((cntL (alluses m.tris)).filter fun u => decide (numU (cntL (alluses m.tris)) u.1.rev < u.2)).map Prod.fst := by
    refine asc_ext (border_asc m) ?_ fun a => ?_
    · have h := hC.1
      unfold ascU at h
      unfold asc
      rw [List.pairwise_map]
      exact h.filter _
    · rw [mem_border, List.mem_map]
      have u1 : m.use a = (alluses m.tris).count a := by simp [Mesh.use, hz]
      have u2 : m.use a.rev = (alluses m.tris).count a.rev := by simp [Mesh.use, hz]
      rw [u1, u2]
      constructor
      · rintro ⟨_, h1, h2⟩
        exact ⟨(a, (alluses m.tris).count a), by rw [List.mem_filter]; exact ⟨(hC.2 _ _).2 ⟨h1, rfl⟩, by simp only [hC.num]; simpa using h2⟩, rfl⟩
      · rintro ⟨⟨x, n⟩, h1, rfl⟩
        rw [List.mem_filter] at h1
        obtain ⟨h1, h2⟩ := h1
        obtain ⟨h3, rfl⟩ := (hC.2 _ _).1 h1
        simp only [hC.num] at h2
        exact ⟨hz, h3, by simpa using h2⟩
  rw [hB]
  refine PureC.is (pure_of hm hf (Nat.le_of_ble_eq_true rfl) ?_) rfl
  unfold ref10_Boundary.c
  simp [go_sem, Mesh.enc, Mesh.cs]
  refine ACall_is (hc m) ?_
  simp [go_sem, hz]
  refine ACall_is (hn m hz) ?_
  generalize cntL (alluses m.tris) = L at *
  simp [go_sem, useV]
  refine AS_loopG [.t 4 2] (α := Nat) (fun k => k ≤ L.length)
    (fun k => ⟨[(3, useV L), (4, .own 1 ((bordU L k).length + 1) 0 (bordU L k).length), (12, useV L), (13, .i .i64 L.length), (14, .i .i64 k)],
      [.dead, .arr ((bordU L k).length + 1) 2 ((bordU L k).map P2.cs)]⟩)
    (fun k => L.length - k) 0 (Nat.zero_le _) ?_ ?_
  · simp [go_sem, useV, bordU]
  · intro k hk
    by_cases hkl : k = L.length
    · subst hkl
      have hk : (L.filter fun u => decide (numU L u.1.rev < u.2)).map Prod.fst = bordU L L.length := by unfold bordU; rw [List.take_length]
      rw [hk]
      generalize bordU L L.length = R
      simp [go_sem, ref10_Boundary.r, psV, p2_isD, useV]
    · have hlt : k < L.length := by omega
      have hp : L[k]? = some L[k] := List.getElem?_eq_getElem hlt
      generalize L[k] = u at hp
      obtain ⟨_, hp'⟩ := List.getElem?_eq_some_iff.1 hp
      have hfs := bordU_succ hp
      have hfl := bordU_len L k
      have h2 := hb L u.1.rev hC.1 (by omega)
      simp only [useV] at h2
      generalize bordU L k = R at *
      simp (disch := omega) [go_sem, hlt, hp, hp', useCs, wrap64_small, useV]
      refine DCall_is (hr u.1) ?_
      simp [go_sem]
      refine DCall_is h2 ?_
      by_cases h : numU L u.1.rev < u.2
      · rw [if_pos h] at hfs
        simp (disch := omega) [go_sem, h, wrap64_small, P2.enc, P2.cs]
        refine ⟨⟨by omega, by omega⟩, k + 1, by omega, by omega, ?_⟩
        rw [hfs]
        simp [pcs, or_imp, forall_and, V.cl, V.cl1, V.cl0]
      · rw [if_neg h] at hfs
        simp (disch := omega) [go_sem, h, wrap64_small]
        rw [List.append_nil] at hfs
        refine ⟨k + 1, by omega, by omega, ?_⟩
        rw [hfs]
        simp [pcs, or_imp, forall_and, V.cl, V.cl1, V.cl0]

theorem ref10_Closed_ok {f fc fb : FuncId} (hf : FnOk P f (ref10_Closed.c fc fb) ref10_Closed.r ref10_Closed.n) (hc : CheckC P fc) (hb : BoundaryC P fb) : ClosedC P f := topo_Closed_ok hm hf hc hb
end
end Go.Abs

set_option linter.unusedVariables false
set_option linter.unusedSimpArgs false
namespace Go.Abs
open Go.Sort Go.Proofs

theorem edgesOf_ne {t : T3} {e : P2} (h : e ∈ edgesOf t) : e.x ≠ e.y := by
  unfold edgesOf edgesK at h
  have := (List.mem_filter.1 h).2
  simpa using this
theorem alluses_ne {l : List T3} {e : P2} (h : e ∈ alluses l) : e.x ≠ e.y := by
  obtain ⟨t, _, ht⟩ := List.mem_flatMap.1 h
  exact edgesOf_ne ht
/-- Whether an edge stands for its undirected edge. -/
def Mesh.repr (m : Mesh) (e : P2) : Bool := decide (e.x < e.y) || decide (m.use e.rev = 0)
theorem und_lt {e : P2} (h : e.x < e.y) : e.und = e := by cases e; simp only [P2.und, P2.mk.injEq] at h ⊢; omega
theorem und_gt {e : P2} (h : ¬ e.x < e.y) : e.und = e.rev := by cases e; simp only [P2.und, P2.rev, P2.mk.injEq] at h ⊢; omega
theorem und_rev (e : P2) : e.rev.und = e.und := by cases e; simp only [P2.und, P2.rev, P2.mk.injEq]; omega
theorem use_pos {m : Mesh} {e : P2} (hz : m.check = 0) : e ∈ alluses m.tris ↔ 0 < m.use e := by
  have : m.use e = (alluses m.tris).count e := by simp [Mesh.use, hz]
  rw [this, ← List.count_pos_iff]; omega
theorem repr_inj {m : Mesh} {a b : P2} (hz : m.check = 0) (ha : a ∈ alluses m.tris) (hb : b ∈ alluses m.tris) (ra : m.repr a = true) (rb : m.repr b = true) (h : a.und = b.und) : a = b := by
  simp only [Mesh.repr, Bool.or_eq_true, decide_eq_true_eq] at ra rb
  have h1 := (use_pos hz).1 ha
  have h2 := (use_pos hz).1 hb
  by_cases c1 : a.x < a.y <;> by_cases c2 : b.x < b.y
  · rw [und_lt c1, und_lt c2] at h; exact h
  · rw [und_lt c1, und_gt c2] at h
    subst h
    have := rb.resolve_left c2
    omega
  · rw [und_gt c1, und_lt c2] at h
    subst h
    have := ra.resolve_left c1
    omega
  · rw [und_gt c1, und_gt c2] at h
    cases a; cases b
    simp only [P2.rev, P2.mk.injEq] at h ⊢; omega
theorem repr_ex {m : Mesh} {a : P2} (hz : m.check = 0) (ha : a ∈ alluses m.tris) : ∃ b ∈ alluses m.tris, m.repr b = true ∧ b.und = a.und := by
  by_cases h : m.repr a = true
  · exact ⟨a, ha, h, rfl⟩
  · simp only [Mesh.repr, Bool.or_eq_true, decide_eq_true_eq, not_or] at h
    have hne := alluses_ne ha
    have h1 : 0 < m.use a.rev := by
      have : 0 ≤ m.use a.rev := by unfold Mesh.use; split <;> omega
      omega
    exact ⟨a.rev, (use_pos hz).2 h1, by simp only [Mesh.repr, Bool.or_eq_true, decide_eq_true_eq]; left; show a.y < a.x; omega, und_rev a⟩

def EInv (m : Mesh) (p : List Nat × List P2) : Prop := p.2.Nodup ∧ p.2.length ≤ p.1.length ∧ p.1.length ≤ (tallyM m).length - left (tallyM m).length p.1 ∧ (∀ i ∈ p.1, i < (tallyM m).length) ∧ ∀ x, x ∈ p.2 ↔ ∃ i ∈ p.1, ∃ e n, (tallyM m)[i]? = some (e, n) ∧ m.repr e = true ∧ x = e.und

section
variable {P : Program} (hm : P.follows .mixedOrders = true)
include hm

set_option maxHeartbeats 4000000 in
theorem topo_Edges_ok {f fc fr fu fs fo : FuncId} (hf : FnOk P f (topo_Edges.c fc fr fu fs fo) topo_Edges.r topo_Edges.n) (hc : CountedC P fc) (hr : RevC P fr) (hu : UndC P fu) (hs : SortC P fs 2) (ho : OrderC P fo) (hcal : callable P fo = true) : EdgesLC P f := by
  intro m
  refine PureC.is (pure_of hm hf (Nat.le_of_ble_eq_true rfl) ?_) rfl
  unfold topo_Edges.c
  have hLl := tallyM_len m
  simp [go_sem, Mesh.enc, Mesh.cs]
  refine ACall_new (hc m) rfl ?_
  simp only [List.map_cons, List.map_nil, sh_asV]
  simp [go_sem]
  refine AS_loopG [.t 4 2] (α := List Nat × List P2) (EInv m)
    (fun p => ⟨[(3, .mp 2), (4, .own 4 (p.2.length + 1) 0 p.2.length), (9, .p 3 1 0 0)], [.dead, .dead, .mp ((tallyM m).map asV), .it (some 2) (tallyM m).length p.1, .arr (p.2.length + 1) 2 (p.2.map P2.cs)]⟩)
    (fun p => left (tallyM m).length p.1) ([], []) ⟨by simp, by simp, by simp [left], by simp, by simp⟩ ?_ ?_
  · simp [go_sem]
    exact asV_cl _ 5
  · rintro ⟨seen, out⟩ ⟨hnd, hol, hsl, hsr, hmem⟩
    simp only at hnd hol hsl hsr hmem
    simp [go_sem, Mnx]
    refine ⟨fun hall => ?_, ?_⟩
    · obtain ⟨ys, hperm, hup, hcall⟩ := hs P2.ints (fun _ => rfl) cmpE swoE fo hcal (fun a b => ho a b) out (by omega)
      have hys : ys = m.edgesL := by
        rw [asc_of_perm hperm hnd (hup.imp (by intro a b h; rw [ltE] at h; simpa using h))]
        unfold Mesh.edgesL
        by_cases hz : m.check = 0
        · rw [if_pos hz]
          refine asc_ext (ascOf_asc _) (ascOf_asc _) fun x => ?_
          rw [mem_ascOf, hmem, mem_ascOf, List.mem_map]
          constructor
          · rintro ⟨i, _, e, n, h1, h2, rfl⟩
            exact ⟨e, (tallyM_get h1).2.1, rfl⟩
          · rintro ⟨a, ha, rfl⟩
            obtain ⟨b, hb, hrb, hub⟩ := repr_ex hz ha
            obtain ⟨i, hi⟩ := tallyM_of hz hb
            exact ⟨i, hall i (List.getElem?_eq_some_iff.1 hi).1, b, _, hi, hrb, hub.symm⟩
        · rw [if_neg hz]
          refine asc_ext (ascOf_asc _) (by simp [asc]) fun x => ?_
          rw [mem_ascOf, hmem]
          constructor
          · rintro ⟨i, _, e, n, h1, _⟩
            exact absurd (tallyM_get h1).1 hz
          · simp
      refine ACall_to (hcall _ 4 _ rfl) ?_
      subst hys
      have hl2 : m.edgesL.length = out.length := hperm.length_eq
      have hy2 : m.edgesL.map (fun x => x.ints.map (V.i .i64)) = m.edgesL.map P2.cs := rfl
      rw [hy2]
      have ht : List.take out.length (m.edgesL.map P2.cs) = m.edgesL.map P2.cs := List.take_of_length_le (by simp [hl2])
      simp [go_sem, topo_Edges.r, psV, p2_isD, hl2, ht]
    · rintro i a b e n hi hab hni
      simp only [asV, Prod.mk.injEq] at hab
      obtain ⟨rfl, rfl⟩ := hab
      have hil : i < (tallyM m).length := (List.getElem?_eq_some_iff.1 hi).1
      have hg := tallyM_get hi
      have h1 : findE [1, 1] (V.a [V.i .i64 e.y, V.i .i64 e.x]) ((tallyM m).map asV) = _ := findE_asV e.rev (tallyM m)
      have hv := val_tallyM m e.rev
      have hleft := left_lt hil hni
      have hleft2 : left (tallyM m).length seen ≤ (tallyM m).length := by
        unfold left
        have := List.length_filter_le (fun i => !seen.contains i) (List.range (tallyM m).length)
        simpa using this
      have hinv : ∀ out' : List P2, (out'.Nodup ∧ out'.length ≤ seen.length + 1 ∧ ∀ x, x ∈ out' ↔ x ∈ out ∨ (x = e.und ∧ m.repr e = true)) → 
          EInv m (seen ++ [i], out') := by
        rintro out' ⟨q1, q2, q3⟩
        refine ⟨q1, by simpa using q2, by simp only [List.length_append, List.length_cons, List.length_nil]; omega, fun j hj => ?_, fun x => ?_⟩
        · rcases List.mem_append.1 hj with h | h
          · exact hsr j h
          · simp at h; omega
        · rw [q3, hmem]
          constructor
          · rintro (⟨j, h1, e', n', h2, h3⟩ | ⟨rfl, h3⟩)
            · exact ⟨j, by simp [h1], e', n', h2, h3⟩
            · exact ⟨i, by simp, e, n, hi, h3, rfl⟩
          · rintro ⟨j, h1, e', n', h2, h3, rfl⟩
            rcases List.mem_append.1 h1 with h | h
            · exact .inl ⟨j, h, e', n', h2, h3, rfl⟩
            · simp at h
              subst h
              rw [hi] at h2
              simp at h2
              obtain ⟨rfl, rfl⟩ := h2
              exact .inr ⟨rfl, h3⟩
      have hein : m.repr e = true → e.und ∉ out := by
        intro hre
        rw [hmem]
        rintro ⟨j, h1, e', n', h2, h3, h4⟩
        have hg2 := tallyM_get h2
        obtain rfl := repr_inj hg.1 hg.2.1 hg2.2.1 hre h3 h4
        have := nodup_get (tallyM_nodup m) hi h2
        subst this
        exact hni h1
      have hi1 : m.repr e = true → EInv m (seen ++ [i], out ++ [e.und]) := fun hre => hinv (out ++ [e.und]) ⟨by
        rw [List.nodup_append]
        exact ⟨hnd, by simp, fun a ha b hb => by simp at hb; subst hb; rintro rfl; exact hein hre ha⟩, by simp; omega, fun x => by simp [hre]⟩
      have hi2 : m.repr e = false → EInv m (seen ++ [i], out) := fun hre => hinv out ⟨hnd, by omega, fun x => by simp [hre]⟩
      simp [go_sem, hi, asV]
      by_cases hlt : e.x < e.y
      · have hre : m.repr e = true := by simp [Mesh.repr, hlt]
        simp (disch := omega) [go_sem, hlt]
        refine ACall_is (hu e) ?_
        simp (disch := omega) [go_sem, P2.enc, P2.cs]
        refine ⟨by omega, seen ++ [i], out ++ [e.und], hi1 hre, hleft, ?_⟩
        simp [pcs]
        exact asV_cl _ 5
      · simp (disch := omega) [go_sem, hlt]
        refine ACall_is (hr e) ?_
        unfold val at hv
        cases hfn : fnd e.rev (tallyM m) with
        | none =>
          rw [hfn] at h1 hv
          simp only [Option.map_none] at h1
          simp only at hv
          have hre : m.repr e = true := by simp [Mesh.repr, ← hv]
          simp (disch := omega) [go_sem, h1, P2.rev, P2.enc, P2.cs]
          refine ACall_is (hu e) ?_
          simp (disch := omega) [go_sem, P2.enc, P2.cs]
          refine ⟨by omega, seen ++ [i], out ++ [e.und], hi1 hre, hleft, ?_⟩
          simp [pcs]
          exact asV_cl _ 5
        | some p =>
          obtain ⟨j, n'⟩ := p
          rw [hfn] at h1 hv
          simp only [Option.map_some] at h1
          simp only at hv
          by_cases hn0 : n' = 0
          · have hre : m.repr e = true := by simp [Mesh.repr, ← hv, hn0]
            simp (disch := omega) [go_sem, h1, P2.rev, P2.enc, P2.cs, hn0]
            refine ACall_is (hu e) ?_
            simp (disch := omega) [go_sem, P2.enc, P2.cs]
            refine ⟨by omega, seen ++ [i], out ++ [e.und], hi1 hre, hleft, ?_⟩
            simp [pcs]
            exact asV_cl _ 5
          · have hre : m.repr e = false := by simp [Mesh.repr, ← hv, hn0]; omega
            simp (disch := omega) [go_sem, h1, P2.rev, P2.enc, P2.cs, hn0]
            refine ⟨seen ++ [i], out, hi2 hre, hleft, ?_⟩
            exact ⟨rfl, asV_cl _ 5, rfl, rfl, rfl⟩
end
end Go.Abs

