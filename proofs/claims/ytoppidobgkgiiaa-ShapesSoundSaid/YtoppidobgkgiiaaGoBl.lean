/- Part of the library on which the proof stands: an abstract machine, its values and its soundness against the model; or what functions of the program do to such values. -/
import Derived.Test.YtoppidobgkgiiaaGoHeap
import Derived.Test.YtoppidobgkgiiaaGoOriB
set_option linter.unusedVariables false
set_option linter.unusedSimpArgs false
namespace Go.Abs
open Go.Sort

instance : Inhabited P2 := ⟨⟨0, 0⟩⟩
def P2.rev (e : P2) : P2 := ⟨e.y, e.x⟩
def P2.und (e : P2) : P2 := ⟨min e.x e.y, max e.x e.y⟩
def P2.ints (e : P2) : List Int := [e.x, e.y]
def tallyM (m : Mesh) : List (P2 × Int) := if m.check = 0 then tally (alluses m.tris) else []
def CountedC (P : Program) (f : FuncId) : Prop := ∀ m : Mesh, NewC P f [m.enc] (fun r h => r = .mp 1 ∧ h = [.dead, .mp ((tallyM m).map asV)])
def RevC (P : Program) (f : FuncId) : Prop := ∀ e : P2, CallIs P f [e.enc] e.rev.enc
def UndC (P : Program) (f : FuncId) : Prop := ∀ e : P2, CallIs P f [e.enc] e.und.enc
def OrC (P : Program) (f : FuncId) : Prop := ∀ x y : Int, CallIs P f [.l 1 [[.i .i64 x], [.i .i64 y]]] (.i .i64 (if x ≠ 0 then x else y))
def cmpE (a b : P2) : Int := if cmpI a.x b.x ≠ 0 then cmpI a.x b.x else cmpI a.y b.y
def OrderC (P : Program) (f : FuncId) : Prop := ∀ a b : P2, CallIs P f [a.enc, b.enc] (.i .i64 (cmpE a b))

theorem ltE (a b : P2) : ltC cmpE a b = decide (P2.lt a b) := by
  unfold ltC cmpE cmpI P2.lt
  by_cases h1 : a.x < b.x
  · simp [h1]
  · by_cases h2 : b.x < a.x
    · simp [h1, h2]; omega
    · have h3 : a.x = b.x := by omega
      by_cases h4 : a.y < b.y
      · simp [h3, h4]
      · by_cases h5 : b.y < a.y <;> simp [h3, h4, h5]
theorem swoE : SWO (ltC cmpE) where
  irrefl x := by rw [ltE]; simp [P2.lt]
  trans x y z h1 h2 := by
    rw [ltE, decide_eq_true_eq] at *
    exact P2.lt_trans h1 h2
  ntrans x y z h1 h2 := by
    rw [ltE, decide_eq_false_iff_not] at *
    unfold P2.lt at *; omega

section
variable {P : Program} (hm : P.follows .mixedOrders = true)
include hm

theorem topo_edges_ok {f : FuncId} (hf : FnOk P f topo_edges.c topo_edges.r topo_edges.n) : EdgesC P f := orient_edges_ok hm hf
theorem topo_reverse_ok {f : FuncId} (hf : FnOk P f topo_reverse.c topo_reverse.r topo_reverse.n) : RevC P f := by
  intro e
  refine PureC.is (pure_of hm hf (Nat.le_of_ble_eq_true rfl) ?_) rfl
  unfold topo_reverse.c
  simp [go_sem, P2.enc, P2.cs, topo_reverse.r, P2.rev]
theorem topo_undirected_ok {f : FuncId} (hf : FnOk P f topo_undirected.c topo_undirected.r topo_undirected.n) : UndC P f := by
  intro e
  refine PureC.is (pure_of hm hf (Nat.le_of_ble_eq_true rfl) ?_) rfl
  unfold topo_undirected.c
  simp [go_sem, P2.enc, P2.cs, topo_undirected.r, P2.und, min_if, max_if]
theorem Or_ok {f : FuncId} (hf : FnOk P f cmp_Or_int.c cmp_Or_int.r cmp_Or_int.n) : OrC P f := by
  intro x y
  refine PureC.is (pure_of hm hf (Nat.le_of_ble_eq_true rfl) ?_) rfl
  unfold cmp_Or_int.c
  simp [go_sem]
  refine AS_loop (α := Nat) (fun k => k ≤ 2 ∧ (1 ≤ k → x = 0) ∧ (2 ≤ k → y = 0))
    (fun k => ⟨[(3, .i .i64 0), (6, .l 1 [[.i .i64 x], [.i .i64 y]]), (7, .i .i64 2), (8, .i .i64 k)], []⟩)
    (fun k => 2 - k) 0 ⟨by omega, by omega, by omega⟩ ?_ ?_
  · simp [go_sem]
  · rintro k ⟨hk, h1, h2⟩
    have w1 : IntKind.i64.wrap 1 = 1 := rfl
    have w2 : IntKind.i64.wrap 2 = 2 := rfl
    have : k = 0 ∨ k = 1 ∨ k = 2 := by omega
    rcases this with rfl | rfl | rfl
    · by_cases hx : x = 0
      · simp [go_sem, hx, w1]
        exact ⟨1, ⟨by omega, fun h => by omega⟩, by omega, rfl⟩
      · simp [go_sem, hx, cmp_Or_int.r]
    · have hx := h1 (by omega)
      by_cases hy : y = 0
      · simp [go_sem, hx, hy, w2]
        exact ⟨2, by omega, by omega, rfl⟩
      · simp [go_sem, hx, hy, cmp_Or_int.r]
    · have hx := h1 (by omega)
      have hy := h2 (by omega)
      simp [go_sem, hx, hy, cmp_Or_int.r]
theorem topo_order_ok {f fc fo : FuncId} (hf : FnOk P f (topo_order.c fc fo) topo_order.r topo_order.n) (hc : CmpC P fc) (ho : OrC P fo) : OrderC P f := by
  intro a b
  refine PureC.is (pure_of hm hf (Nat.le_of_ble_eq_true rfl) ?_) rfl
  unfold topo_order.c
  simp [go_sem, P2.enc, P2.cs]
  refine DCall_is (hc a.x b.x) ?_
  simp [go_sem]
  refine DCall_is (hc a.y b.y) ?_
  simp [go_sem]
  refine DCall_is (ho _ _) ?_
  simp [go_sem, topo_order.r, cmpE]

set_option maxHeartbeats 4000000 in
theorem topo_counted_ok {f fc fe : FuncId} (hf : FnOk P f (topo_counted.c fc fe) topo_counted.r topo_counted.n) (hc : CheckC P fc) (he : EdgesC P fe) : CountedC P f := by
  intro m
  refine new_of hm hf (Nat.le_of_ble_eq_true rfl) ?_
  unfold topo_counted.c
  simp [go_sem, Mesh.enc, Mesh.cs]
  refine ACall_is (hc m) ?_
  by_cases hz : m.check = 0
  case neg =>
    have hT : tallyM m = [] := by simp [tallyM, hz]
    simp [go_sem, hz, topo_counted.r, hT]
  have hl := (Mesh.check_zero.1 hz).2.1
  simp [go_sem, hz, tsV]
  refine AS_loop (α := Nat) (fun k => k ≤ m.tris.length)
    (fun k => ⟨[(3, .mp 1), (14, tsV m.tris), (15, .i .i64 m.tris.length), (16, .i .i64 k)], [.dead, .mp ((tally (alluses (m.tris.take k))).map asV)]⟩)
    (fun k => m.tris.length - k) 0 (by omega) ?_ ?_
  · simp [go_sem, tsV, alluses, tally]
  · intro k hk
    by_cases hkl : k = m.tris.length
    · subst hkl
      rw [List.take_length]
      have hT : tallyM m = tally (alluses m.tris) := by simp [tallyM, hz]
      simp [go_sem, tsV, topo_counted.r, hT]
      exact asV_cl _ 2
    · have hlt : k < m.tris.length := by omega
      have hp : m.tris[k]? = some m.tris[k] := List.getElem?_eq_getElem hlt
      generalize m.tris[k] = t at hp
      obtain ⟨_, hp'⟩ := List.getElem?_eq_some_iff.1 hp
      simp [go_sem, tsV, hlt, hp', tcs]
      refine ACall_is (he t) ?_
      have hlen : (edgesOf t).length ≤ 3 := edgesK_le t 3
      have hE := alluses_len m.tris k
      generalize hA : alluses (m.tris.take k) = A0
      simp [go_sem, psV]
      refine AS_loop (α := Nat) (fun j => j ≤ (edgesOf t).length)
        (fun j => ⟨[(3, .mp 1), (14, tsV m.tris), (15, .i .i64 m.tris.length), (16, .i .i64 k), (21, psV (edgesOf t)), (22, .i .i64 (edgesOf t).length), (23, .i .i64 j)], [.dead, .mp ((tally (A0 ++ (edgesOf t).take j)).map asV)]⟩)
        (fun j => (edgesOf t).length - j) 0 (by omega) ?_ ?_
      · simp [go_sem, tsV, psV]
        exact asV_cl _ 2
      · intro j hj
        by_cases hjl : j = (edgesOf t).length
        · subst hjl
          simp (disch := omega) [go_sem, tsV, psV, wrap64_small]
          exact ⟨k + 1, by omega, by omega, by omega, by rw [alluses_succ hp, hA], asV_cl _ 2⟩
        · have hjlt : j < (edgesOf t).length := by omega
          have hq : (edgesOf t)[j]? = some (edgesOf t)[j] := List.getElem?_eq_getElem hjlt
          have htk : (edgesOf t).take (j + 1) = (edgesOf t).take j ++ [(edgesOf t)[j]] := by rw [List.take_add_one, hq]; rfl
          generalize (edgesOf t)[j] = e at hq htk
          obtain ⟨_, hq'⟩ := List.getElem?_eq_some_iff.1 hq
          have hS1 : A0 ++ (edgesOf t).take (j + 1) = (A0 ++ (edgesOf t).take j) ++ [e] := by rw [htk, ← List.append_assoc]
          generalize hS : A0 ++ (edgesOf t).take j = S at hS1
          have hT1 := tally_snoc S e
          rw [← hS1] at hT1
          generalize hL : tally S = L at hT1
          have h1 := findE_asV e L
          unfold addE at hT1
          cases hfn : fnd e L with
          | some p =>
            obtain ⟨i, n⟩ := p
            rw [hfn] at h1 hT1
            simp only [Option.map_some] at h1
            simp only at hT1
            have hn : n = S.count e := by
              have := val_tally S e
              rw [hL, val, hfn] at this
              exact this
            have hcl : S.count e ≤ S.length := List.count_le_length
            have hSl : S.length ≤ 3 * 4096 := by
              rw [← hS, ← hA, List.length_append, List.length_take]; omega
            have h3 : fnd e (L.set i (e, n + 1)) = some (i, n + 1) := (fnd_set (n' := n + 1) hfn).2
            have hil : i < L.length := (List.getElem?_eq_some_iff.1 (fnd_set (n' := n + 1) hfn).1).1
            have hil' : i < (List.map asV L).length := by simpa using hil
            have wn : IntKind.i64.wrap (n + 1) = n + 1 := wrap64_small (by omega) (by omega)
            simp [go_sem, psV, hjlt, hq', pcs, h1, wn, List.getElem?_set_self hil', List.set_set]
            refine ⟨j + 1, by omega, by omega, ⟨.inr rfl, wrap64_small (by omega) (by omega)⟩, ?_, asV_cl _ 2⟩
            rw [hT1, List.map_set]; rfl
          | none =>
            rw [hfn] at h1 hT1
            simp only [Option.map_none] at h1
            have w1 : IntKind.i64.wrap 1 = 1 := rfl
            simp only at hT1
            simp [go_sem, psV, hjlt, hq', pcs, h1, w1]
            refine ⟨j + 1, by omega, by omega, ⟨.inr rfl, wrap64_small (by omega) (by omega)⟩, ?_, asV_cl _ 2⟩
            rw [hT1, List.map_append]; rfl
end
end Go.Abs
set_option linter.unusedVariables false
set_option linter.unusedSimpArgs false
namespace Go.Abs
open Go.Sort

def bordE (E : List P2) (e : P2) : Bool := decide (E.count e.rev < E.count e)
def border (E : List P2) : List P2 := ascOf (E.filter (bordE E))
def Mesh.border (m : Mesh) : List P2 := if m.check = 0 then Go.Abs.border (alluses m.tris) else []
def Mesh.closed (m : Mesh) : Bool := decide (m.check = 0) && decide (m.border = [])
def BoundaryC (P : Program) (f : FuncId) : Prop := ∀ m : Mesh, CallIs P f [m.enc] (psV m.border)
def ClosedC (P : Program) (f : FuncId) : Prop := ∀ m : Mesh, CallIs P f [m.enc] (.b m.closed)
def Mesh.use (m : Mesh) (e : P2) : Int := if m.check = 0 then (alluses m.tris).count e else 0
theorem sh_asV (L : List (P2 × Int)) (n : Nat) : (O.mp (L.map asV)).sh n = .mp (L.map asV) := by
  simp [O.sh, asV, V.sh2, V.sh1, V.sh0]
theorem val_tallyM (m : Mesh) (e : P2) : val e (tallyM m) = m.use e := by
  unfold tallyM Mesh.use
  split
  · exact val_tally _ _
  · rfl
theorem tallyM_get {m : Mesh} {i : Nat} {e : P2} {n : Int} (h : (tallyM m)[i]? = some (e, n)) : m.check = 0 ∧ e ∈ alluses m.tris ∧ n = m.use e := by
  unfold tallyM at h
  split at h
  · rename_i hz
    have := tally_get h
    exact ⟨hz, this.1, by simp [Mesh.use, hz, this.2]⟩
  · simp at h
theorem tallyM_of {m : Mesh} {e : P2} (hz : m.check = 0) (h : e ∈ alluses m.tris) : ∃ i : Nat, (tallyM m)[i]? = some (e, m.use e) := by
  unfold tallyM Mesh.use
  rw [if_pos hz, if_pos hz]
  exact tally_of h
theorem tallyM_nodup (m : Mesh) : ((tallyM m).map Prod.fst).Nodup := by
  unfold tallyM
  split
  · exact (tally_keys _).1
  · simp
theorem tallyM_len (m : Mesh) : (tallyM m).length ≤ 12288 := by
  unfold tallyM
  split
  · rename_i hz
    have h1 := (tally_keys (alluses m.tris)).2
    have h3 := alluses_len m.tris m.tris.length
    rw [List.take_length] at h3
    have h4 := (Mesh.check_zero.1 hz).2.1
    have h5 : ∀ E : List P2, (tally E).length ≤ E.length := by
      refine rev_ind (by simp [tally]) fun E x ih => ?_
      rw [tally_snoc]
      unfold addE
      split <;> simp <;> omega
    have := h5 (alluses m.tris)
    omega
  · simp
theorem mem_border {m : Mesh} {e : P2} : e ∈ m.border ↔ m.check = 0 ∧ e ∈ alluses m.tris ∧ m.use e.rev < m.use e := by
  unfold Mesh.border Mesh.use
  by_cases hz : m.check = 0
  · simp only [if_pos hz]
    unfold Go.Abs.border bordE
    rw [mem_ascOf, List.mem_filter]
    simp [hz]
  · simp [hz]
theorem border_asc (m : Mesh) : asc m.border := by
  unfold Mesh.border
  split
  · exact ascOf_asc _
  · simp [asc]
theorem nodup_get {L : List (P2 × Int)} (h : (L.map Prod.fst).Nodup) {i j : Nat} {e : P2} {n n' : Int} (hi : L[i]? = some (e, n)) (hj : L[j]? = some (e, n')) : i = j := by
  have h1 := fnd_of_get h hi
  have h2 := fnd_of_get h hj
  rw [h1] at h2
  simp at h2; exact h2.1

def BInv (m : Mesh) (p : List Nat × List P2) : Prop := p.2.Nodup ∧ p.2.length ≤ p.1.length ∧ p.1.length ≤ (tallyM m).length - left (tallyM m).length p.1 ∧ (∀ i ∈ p.1, i < (tallyM m).length) ∧ ∀ x, x ∈ p.2 ↔ ∃ i ∈ p.1, ∃ n, (tallyM m)[i]? = some (x, n) ∧ m.use x.rev < m.use x

section
variable {P : Program} (hm : P.follows .mixedOrders = true)
include hm

set_option maxHeartbeats 4000000 in
theorem topo_Boundary_ok {f fc fr fs fo : FuncId} (hf : FnOk P f (topo_Boundary.c fc fr fs fo) topo_Boundary.r topo_Boundary.n) (hc : CountedC P fc) (hr : RevC P fr) (hs : SortC P fs 2) (ho : OrderC P fo) (hcal : callable P fo = true) : BoundaryC P f := by
  intro m
  refine PureC.is (pure_of hm hf (Nat.le_of_ble_eq_true rfl) ?_) rfl
  unfold topo_Boundary.c
  have hLl := tallyM_len m
  simp [go_sem, Mesh.enc, Mesh.cs]
  refine ACall_new (hc m) rfl ?_
  simp only [List.map_cons, List.map_nil, sh_asV]
  simp [go_sem]
  refine AS_loopG [.t 4 2] (α := List Nat × List P2) (BInv m)
    (fun p => ⟨[(3, .mp 2), (4, .own 4 (p.2.length + 1) 0 p.2.length), (10, .p 3 1 0 0)], [.dead, .dead, .mp ((tallyM m).map asV), .it (some 2) (tallyM m).length p.1, .arr (p.2.length + 1) 2 (p.2.map P2.cs)]⟩)
    (fun p => left (tallyM m).length p.1) ([], []) ⟨by simp, by simp, by simp [left], by simp, by simp⟩ ?_ ?_
  · simp [go_sem]
    exact asV_cl _ 5
  · rintro ⟨seen, out⟩ ⟨hnd, hol, hsl, hsr, hmem⟩
    simp only at hnd hol hsl hsr hmem
    simp [go_sem, Mnx]
    refine ⟨fun hall => ?_, ?_⟩
    · obtain ⟨ys, hperm, hup, hcall⟩ := hs P2.ints (fun _ => rfl) cmpE swoE fo hcal (fun a b => ho a b) out (by omega)
      have hys : ys = m.border := by
        rw [asc_of_perm hperm hnd (hup.imp (by intro a b h; rw [ltE] at h; simpa using h))]
        refine asc_ext (ascOf_asc _) (border_asc m) fun x => ?_
        rw [mem_ascOf, hmem, mem_border]
        constructor
        · rintro ⟨i, _, n, h1, h2⟩
          have := tallyM_get h1
          exact ⟨this.1, this.2.1, h2⟩
        · rintro ⟨h1, h2, h3⟩
          obtain ⟨i, hi⟩ := tallyM_of h1 h2
          exact ⟨i, hall i (List.getElem?_eq_some_iff.1 hi).1, _, hi, h3⟩
      refine ACall_to (hcall _ 4 _ rfl) ?_
      subst hys
      have hl2 : m.border.length = out.length := hperm.length_eq
      have hy2 : m.border.map (fun x => x.ints.map (V.i .i64)) = m.border.map P2.cs := rfl
      rw [hy2]
      have ht : List.take out.length (m.border.map P2.cs) = m.border.map P2.cs := List.take_of_length_le (by simp [hl2])
      simp [go_sem, topo_Boundary.r, psV, p2_isD, hl2, ht]
    · rintro i a b e n hi hab hni
      simp only [asV, Prod.mk.injEq] at hab
      obtain ⟨rfl, rfl⟩ := hab
      have hil : i < (tallyM m).length := (List.getElem?_eq_some_iff.1 hi).1
      have hg := tallyM_get hi
      simp [go_sem, hi, asV]
      refine ACall_is (hr e) ?_
      have h1 : findE [1, 1] (V.a [V.i .i64 e.y, V.i .i64 e.x]) ((tallyM m).map asV) = _ := findE_asV e.rev (tallyM m)
      have hv := val_tallyM m e.rev
      have hleft := left_lt hil hni
      have hleft2 : left (tallyM m).length seen ≤ (tallyM m).length := by
        unfold left
        have := List.length_filter_le (fun i => !seen.contains i) (List.range (tallyM m).length)
        simpa using this
      have hinv : ∀ out' : List P2, (out'.Nodup ∧ out'.length ≤ seen.length + 1 ∧ ∀ x, x ∈ out' ↔ x ∈ out ∨ (x = e ∧ m.use e.rev < m.use e)) → 
          BInv m (seen ++ [i], out') := by
        rintro out' ⟨q1, q2, q3⟩
        refine ⟨q1, by simpa using q2, by simp only [List.length_append, List.length_cons, List.length_nil]; omega, fun j hj => ?_, fun x => ?_⟩
        · rcases List.mem_append.1 hj with h | h
          · exact hsr j h
          · simp at h; omega
        · rw [q3, hmem]
          constructor
          · rintro (⟨j, h1, n', h2, h3⟩ | ⟨rfl, h3⟩)
            · exact ⟨j, by simp [h1], n', h2, h3⟩
            · exact ⟨i, by simp, n, hi, h3⟩
          · rintro ⟨j, h1, n', h2, h3⟩
            rcases List.mem_append.1 h1 with h | h
            · exact .inl ⟨j, h, n', h2, h3⟩
            · simp at h
              subst h
              rw [hi] at h2
              simp at h2
              obtain ⟨rfl, rfl⟩ := h2
              exact .inr ⟨rfl, h3⟩
      have hein : e ∉ out := by
        rw [hmem]
        rintro ⟨j, h1, n', h2, _⟩
        have := nodup_get (tallyM_nodup m) hi h2
        subst this
        exact hni h1
      have hn := hg.2.2
      have hi1 := hinv (out ++ [e])
      have hi2 := hinv out
      cases hfn : fnd e.rev (tallyM m) with
      | none =>
        rw [hfn] at h1
        rw [val, hfn] at hv
        simp only at hv
        simp only [Option.map_none] at h1
        by_cases hlt : 0 < n
        · simp (disch := omega) [go_sem, h1, P2.rev, P2.enc, P2.cs, hlt]
          refine ⟨by omega, seen ++ [i], out ++ [e], hi1 ⟨?_, by simp; omega, fun x => ?_⟩, hleft, ?_⟩
          · rw [List.nodup_append]
            exact ⟨hnd, by simp, fun a ha b hb => by simp at hb; subst hb; rintro rfl; exact hein ha⟩
          · rw [List.mem_append, List.mem_singleton]
            have : m.use e.rev < m.use e := by omega
            simp [this]
          · simp [pcs]
            exact asV_cl _ 5
        · simp (disch := omega) [go_sem, h1, P2.rev, P2.enc, P2.cs, hlt]
          refine ⟨seen ++ [i], out, hi2 ⟨hnd, by omega, fun x => ?_⟩, hleft, ?_⟩
          · have : ¬ m.use e.rev < m.use e := by omega
            simp [this]
          · exact ⟨rfl, asV_cl _ 5, rfl, rfl, rfl⟩
      | some p =>
        obtain ⟨j, n'⟩ := p
        rw [hfn] at h1
        rw [val, hfn] at hv
        simp only at hv
        simp only [Option.map_some] at h1
        by_cases hlt : n' < n
        · simp (disch := omega) [go_sem, h1, P2.rev, P2.enc, P2.cs, hlt]
          refine ⟨by omega, seen ++ [i], out ++ [e], hi1 ⟨?_, by simp; omega, fun x => ?_⟩, hleft, ?_⟩
          · rw [List.nodup_append]
            exact ⟨hnd, by simp, fun a ha b hb => by simp at hb; subst hb; rintro rfl; exact hein ha⟩
          · rw [List.mem_append, List.mem_singleton]
            have : m.use e.rev < m.use e := by omega
            simp [this]
          · simp [pcs]
            exact asV_cl _ 5
        · simp (disch := omega) [go_sem, h1, P2.rev, P2.enc, P2.cs, hlt]
          refine ⟨seen ++ [i], out, hi2 ⟨hnd, by omega, fun x => ?_⟩, hleft, ?_⟩
          · have : ¬ m.use e.rev < m.use e := by omega
            simp [this]
          · exact ⟨rfl, asV_cl _ 5, rfl, rfl, rfl⟩

theorem topo_Closed_ok {f fc fb : FuncId} (hf : FnOk P f (topo_Closed.c fc fb) topo_Closed.r topo_Closed.n) (hc : CheckC P fc) (hb : BoundaryC P fb) : ClosedC P f := by
  intro m
  refine PureC.is (pure_of hm hf (Nat.le_of_ble_eq_true rfl) ?_) rfl
  unfold topo_Closed.c
  simp [go_sem, Mesh.enc, Mesh.cs]
  refine ACall_is (hc m) ?_
  by_cases h : m.check = 0
  · simp [go_sem, h]
    refine ACall_is (hb m) ?_
    simp [go_sem, psV, topo_Closed.r, Mesh.closed, h]
    rw [Bool.eq_iff_iff]; simp
  · have h' : (m.check == 0) = false := by simpa using h
    simp [go_sem, h, h', topo_Closed.r, Mesh.closed]

end
end Go.Abs
set_option linter.unusedVariables false
set_option linter.unusedSimpArgs false
namespace Go.Abs

abbrev Use := P2 × Int
def ascU (l : List Use) : Prop := l.Pairwise fun a b => P2.lt a.1 b.1
/-- The place of an edge: how many come before it. -/
def pl (l : List Use) (e : P2) : Nat := l.countP fun u => decide (P2.lt u.1 e)
theorem pl_spec {e : P2} : ∀ {l : List Use}, ascU l → ∀ {j : Nat} {u : Use}, l[j]? = some u → (P2.lt u.1 e ↔ j < pl l e)
  | [], _, j, u, h => by simp at h
  | x :: r, ha, j, u, h => by
    have hc := List.pairwise_cons.1 ha
    by_cases hx : P2.lt x.1 e
    · have hp : pl (x :: r) e = pl r e + 1 := by simp [pl, List.countP_cons, hx]
      cases j with
      | zero => simp at h; subst h; simp [hp, hx]
      | succ j => simp at h; rw [pl_spec hc.2 h, hp]; omega
    · have h0 : pl r e = 0 := by
        unfold pl
        rw [List.countP_eq_zero]
        intro v hv
        simp only [decide_eq_true_eq]
        exact fun h1 => hx (P2.lt_trans (hc.1 v hv) h1)
      have hp : pl (x :: r) e = 0 := by unfold pl at h0 ⊢; simp [List.countP_cons, hx, h0]
      rw [hp]
      simp only [Nat.not_lt_zero, iff_false]
      cases j with
      | zero => simp at h; subst h; exact hx
      | succ j =>
        simp at h
        rw [pl_spec hc.2 h, h0]; omega
theorem pl_found {l : List Use} (h : ascU l) {j : Nat} {e : P2} {n : Int} (hj : l[j]? = some (e, n)) : pl l e = j := by
  have h1 : ¬ j < pl l e := fun hh => P2.lt_irrefl e ((pl_spec h hj).2 hh)
  have hjl := (List.getElem?_eq_some_iff.1 hj).1
  refine Decidable.byContradiction fun hne => ?_
  have hlt : pl l e < j := by omega
  have h2 : l[pl l e]? = some l[pl l e] := List.getElem?_eq_getElem (by omega)
  have h3 := List.pairwise_iff_getElem.1 h (pl l e) j (by omega) hjl hlt
  obtain ⟨_, hj2⟩ := List.getElem?_eq_some_iff.1 hj
  rw [hj2] at h3
  have : pl l e < pl l e := (pl_spec h h2).1 h3
  omega
/-- The number of an edge, or 0. -/
def numU (l : List Use) (e : P2) : Int := match l[pl l e]? with | some u => if u.1 = e then u.2 else 0 | none => 0
theorem numU_of {l : List Use} (h : ascU l) {e : P2} {n : Int} (hn : (e, n) ∈ l) : numU l e = n := by
  obtain ⟨j, hj⟩ := List.getElem?_of_mem hn
  unfold numU
  rw [pl_found h hj, hj]; simp
theorem numU_none {l : List Use} {e : P2} (hn : ∀ n, (e, n) ∉ l) : numU l e = 0 := by
  unfold numU
  split
  · rename_i u hu
    split
    · rename_i h1
      subst h1
      exact absurd (List.mem_of_getElem? hu) (hn u.2)
    · rfl
  · rfl
/-- The list counts these edges. -/
def Cnt (L : List Use) (E : List P2) : Prop := ascU L ∧ ∀ e n, (e, n) ∈ L ↔ e ∈ E ∧ n = E.count e
theorem Cnt.nil : Cnt [] [] := ⟨by simp [ascU], by simp⟩
theorem Cnt.num {L : List Use} {E : List P2} (h : Cnt L E) (e : P2) : numU L e = E.count e := by
  by_cases he : e ∈ E
  · exact numU_of h.1 ((h.2 e _).2 ⟨he, rfl⟩)
  · rw [numU_none fun n hn => he ((h.2 e n).1 hn).1, List.count_eq_zero.2 he]; rfl
theorem nodupP_len : ∀ {l k : List P2}, l.Nodup → (∀ a ∈ l, a ∈ k) → l.length ≤ k.length
  | [], k, _, _ => by simp
  | x :: l, k, hn, hs => by
    have hc := List.nodup_cons.1 hn
    have hx := hs x (by simp)
    have := nodupP_len (l := l) (k := k.erase x) hc.2 (fun a ha => by
      have hne : a ≠ x := by rintro rfl; exact hc.1 ha
      exact (List.mem_erase_of_ne hne).2 (hs a (by simp [ha])))
    rw [List.length_erase_of_mem hx] at this
    have := List.length_pos_of_mem hx
    simp only [List.length_cons]; omega
theorem Cnt.nodup {L : List Use} {E : List P2} (h : Cnt L E) : (L.map Prod.fst).Nodup := by
  show List.Pairwise _ _
  rw [List.pairwise_map]
  exact h.1.imp fun h1 h2 => by rw [h2] at h1; exact P2.lt_irrefl _ h1
theorem Cnt.len {L : List Use} {E : List P2} (h : Cnt L E) : L.length ≤ E.length := by
  have := nodupP_len h.nodup (k := E) fun e he => by
    obtain ⟨u, hu, rfl⟩ := List.mem_map.1 he
    exact ((h.2 u.1 u.2).1 hu).1
  simpa using this
end Go.Abs
set_option linter.unusedVariables false
set_option linter.unusedSimpArgs false
namespace Go.Abs

def topo_Edges.c (topo_counted topo_reverse topo_undirected slices_SortFunc_api_Edge_api_Edge topo_order : FuncId) : C :=
 (.seq
  (.reg [
    ⟨(some 1), none, .box (.t 0)⟩,
    ⟨(some 2), none, .mv (.c .nil)⟩])
  (.seq
   (.reg [
     ⟨(some 6), none, .ld (some 2) (.t 1)⟩,
     ⟨(some 7), none, .call topo_counted [(.t 6)]⟩,
     ⟨(some 3), none, .mv (.t 7)⟩])
   (.seq
    (.reg [
      ⟨(some 4), none, .mv (.c .nil)⟩])
    (.seq
     (.seq
      (.reg [
        ⟨(some 8), none, .mv (.t 3)⟩,
        ⟨(some 9), none, .mrng (.t 8)⟩])
      (.blk 0
       (.loop
        (.seq
         (.reg [
           ⟨(some 10), none, .mnx (.t 9)⟩,
           ⟨(some 11), none, .ext (.t 10) 0⟩])
         (.seq
          (.ite (.t 11)
           .skip
           (.exit 0))
          (.blk 1
           (.seq
            (.reg [
              ⟨(some 12), none, .men (.t 9)⟩,
              ⟨(some 13), none, .ext (.t 12) 0⟩,
              ⟨(some 5), none, .alloc [(.i .i64 0), (.i .i64 0)]⟩,
              ⟨none, none, .st 2 (.t 5) (.t 13)⟩])
            (.seq
             (.reg [
               ⟨(some 14), none, .fa 0 (.t 5)⟩,
               ⟨(some 15), none, .ld none (.t 14)⟩,
               ⟨(some 16), none, .fa 1 (.t 5)⟩,
               ⟨(some 17), none, .ld none (.t 16)⟩,
               ⟨(some 18), none, .bin .lss (.t 15) (.t 17)⟩,
               ⟨(some 19), none, .mv (.t 18)⟩,
               ⟨(some 20), (some (19, false)), .mv (.t 3)⟩,
               ⟨(some 21), (some (19, false)), .ld (some 2) (.t 5)⟩,
               ⟨(some 22), (some (19, false)), .call topo_reverse [(.t 21)]⟩,
               ⟨(some 23), (some (19, false)), .lk [1, 1] (.i .i64 0) false (.t 20) (.t 22)⟩,
               ⟨(some 24), (some (19, false)), .bin .eql (.t 23) (.c (.i .i64 0))⟩,
               ⟨(some 25), none, .pick (.t 19) (.c (.b true)) (.t 24)⟩])
             (.ite (.t 25)
              (.reg [
                ⟨(some 26), none, .mv (.t 4)⟩,
                ⟨(some 27), none, .ld (some 2) (.t 5)⟩,
                ⟨(some 28), none, .call topo_undirected [(.t 27)]⟩,
                ⟨(some 29), none, .bsi 2 1 [(.i .i64 0), (.i .i64 0)] [(0, (.t 28))]⟩,
                ⟨(some 30), none, .app 2 16 (.t 26) (.t 29)⟩,
                ⟨(some 4), none, .mv (.t 30)⟩])
              .skip)))))))))
     (.seq
      (.reg [
        ⟨(some 31), none, .mv (.t 4)⟩,
        ⟨(some 32), none, .call slices_SortFunc_api_Edge_api_Edge [(.t 31), (.c (.f topo_order []))]⟩])
      (.seq
       (.reg [
         ⟨(some 33), none, .mv (.t 4)⟩,
         ⟨(some 2), none, .mv (.t 33)⟩])
       .ret))))))
def topo_Edges.r : List Rr := [.tmp 2]
abbrev topo_Edges.n : Nat := 34
def topo_Euler.c (mesh_Check topo_Edges : FuncId) : C :=
 (.seq
  (.reg [
    ⟨(some 1), none, .box (.t 0)⟩,
    ⟨(some 2), none, .mv (.c (.i .i64 0))⟩])
  (.seq
   (.seq
    (.reg [
      ⟨(some 6), none, .ld (some 2) (.t 1)⟩,
      ⟨(some 7), none, .call mesh_Check [(.t 6)]⟩,
      ⟨(some 8), none, .bin .neq (.t 7) (.c (.i .i64 0))⟩])
    (.ite (.t 8)
     (.seq
      (.reg [
        ⟨(some 2), none, .mv (.c (.i .i64 0))⟩])
      .ret)
     .skip))
   (.seq
    (.reg [
      ⟨(some 9), none, .mkm none⟩,
      ⟨(some 3), none, .mv (.t 9)⟩])
    (.seq
     (.seq
      (.reg [
        ⟨(some 10), none, .fa 1 (.t 1)⟩,
        ⟨(some 11), none, .ld none (.t 10)⟩,
        ⟨(some 12), none, .len 0 (.t 11)⟩,
        ⟨(some 13), none, .mv (.c (.i .i64 0))⟩])
      (.blk 0
       (.loop
        (.seq
         (.reg [
           ⟨(some 14), none, .bin .lss (.t 13) (.t 12)⟩])
         (.seq
          (.ite (.t 14)
           .skip
           (.exit 0))
          (.seq
           (.blk 1
            (.seq
             (.reg [
               ⟨(some 15), none, .ia 3 (.t 11) (.t 13)⟩,
               ⟨(some 16), none, .ld (some 3) (.t 15)⟩,
               ⟨(some 5), none, .alloc [(.i .i64 0), (.i .i64 0), (.i .i64 0)]⟩,
               ⟨none, none, .st 3 (.t 5) (.t 16)⟩])
             (.drw [
               ⟨(some 17), none, .mv (.t 3)⟩,
               ⟨(some 18), none, .fa 0 (.t 5)⟩,
               ⟨(some 19), none, .ld none (.t 18)⟩,
               ⟨(some 20), none, .mv (.t 3)⟩,
               ⟨(some 21), none, .fa 1 (.t 5)⟩,
               ⟨(some 22), none, .ld none (.t 21)⟩,
               ⟨(some 23), none, .mv (.t 3)⟩,
               ⟨(some 24), none, .fa 2 (.t 5)⟩,
               ⟨(some 25), none, .ld none (.t 24)⟩,
               ⟨none, none, .mup [1] (.t 17) (.t 19) (.c (.b true))⟩,
               ⟨none, none, .mup [1] (.t 20) (.t 22) (.c (.b true))⟩,
               ⟨none, none, .mup [1] (.t 23) (.t 25) (.c (.b true))⟩] [[], [], [], [], [], [], [], [], [], [4, 5, 7, 8], [7, 8], []])))
           (.reg [
             ⟨(some 26), none, .bin .add (.t 13) (.c (.i .i64 1))⟩,
             ⟨(some 13), none, .mv (.t 26)⟩])))))))
     (.seq
      (.drw [
        ⟨(some 27), none, .mv (.t 3)⟩,
        ⟨(some 28), none, .len 2 (.t 27)⟩,
        ⟨(some 29), none, .ld (some 2) (.t 1)⟩,
        ⟨(some 30), none, .call topo_Edges [(.t 29)]⟩,
        ⟨(some 31), none, .len 0 (.t 30)⟩,
        ⟨(some 32), none, .bin .sub (.t 28) (.t 31)⟩,
        ⟨(some 33), none, .fa 1 (.t 1)⟩,
        ⟨(some 34), none, .ld none (.t 33)⟩,
        ⟨(some 35), none, .len 0 (.t 34)⟩,
        ⟨(some 36), none, .bin .add (.t 32) (.t 35)⟩,
        ⟨(some 2), none, .mv (.t 36)⟩] [[], [], [], [], [], [], [3], [3], [3], [], []])
      .ret)))))
def topo_Euler.r : List Rr := [.tmp 2]
abbrev topo_Euler.n : Nat := 37
end Go.Abs
set_option linter.unusedVariables false
set_option linter.unusedSimpArgs false
namespace Go.Abs

theorem WeakH_self {n : Nat} {h l : List O} (hc : ∀ o ∈ h, o.cl n) : WeakH n (h ++ l) h := by
  have := WeakH_app (n := n) (a := l) (b := []) hc (by cases l <;> trivial)
  rwa [List.append_nil] at this
theorem app_get_l {h l : List O} {id : Nat} {o : O} (ho : h[id]? = some o) : (h ++ l)[id]? = some o := by
  rw [List.getElem?_append_left (List.getElem?_eq_some_iff.1 ho).1, ho]
theorem app_set_l {h : List O} (l : List O) {id : Nat} (hid : id < h.length) (o : O) : (h ++ l).set id o = h.set id o ++ l := List.set_append_left _ _ hid

section
variable {P : Program} (hm : P.follows .mixedOrders = true)
include hm

end
end Go.Abs
set_option linter.unusedVariables false
set_option linter.unusedSimpArgs false
namespace Go.Abs

def Mesh.edgesL (m : Mesh) : List P2 := if m.check = 0 then ascOf ((alluses m.tris).map P2.und) else []
def EdgesLC (P : Program) (f : FuncId) : Prop := ∀ m : Mesh, CallIs P f [m.enc] (psV m.edgesL)
theorem take_succ_get {α : Type} {l : List α} {k : Nat} {x : α} (h : l[k]? = some x) : l.take (k + 1) = l.take k ++ [x] := by rw [List.take_add_one, h]; rfl
section
variable {P : Program} (hm : P.follows .mixedOrders = true)
include hm

end
end Go.Abs
set_option linter.unusedVariables false
set_option linter.unusedSimpArgs false
namespace Go.Abs
open Go.Sort

theorem edgesOf_ne {t : T3} {e : P2} (h : e ∈ edgesOf t) : e.x ≠ e.y := by
  unfold edgesOf edgesK at h
  have := (List.mem_filter.1 h).2
  simpa using this
theorem alluses_ne {l : List T3} {e : P2} (h : e ∈ alluses l) : e.x ≠ e.y := by
  obtain ⟨t, _, ht⟩ := List.mem_flatMap.1 h
  exact edgesOf_ne ht
/-- Whether an edge stands for its undirected edge. -/
def Mesh.repr (m : Mesh) (e : P2) : Bool := decide (e.x < e.y) || decide (m.use e.rev = 0)
theorem und_lt {e : P2} (h : e.x < e.y) : e.und = e := by cases e; simp only [P2.und, P2.mk.injEq] at h ⊢; omega
theorem und_gt {e : P2} (h : ¬ e.x < e.y) : e.und = e.rev := by cases e; simp only [P2.und, P2.rev, P2.mk.injEq] at h ⊢; omega
theorem und_rev (e : P2) : e.rev.und = e.und := by cases e; simp only [P2.und, P2.rev, P2.mk.injEq]; omega
theorem use_pos {m : Mesh} {e : P2} (hz : m.check = 0) : e ∈ alluses m.tris ↔ 0 < m.use e := by
  have : m.use e = (alluses m.tris).count e := by simp [Mesh.use, hz]
  rw [this, ← List.count_pos_iff]; omega
theorem repr_inj {m : Mesh} {a b : P2} (hz : m.check = 0) (ha : a ∈ alluses m.tris) (hb : b ∈ alluses m.tris) (ra : m.repr a = true) (rb : m.repr b = true) (h : a.und = b.und) : a = b := by
  simp only [Mesh.repr, Bool.or_eq_true, decide_eq_true_eq] at ra rb
  have h1 := (use_pos hz).1 ha
  have h2 := (use_pos hz).1 hb
  by_cases c1 : a.x < a.y <;> by_cases c2 : b.x < b.y
  · rw [und_lt c1, und_lt c2] at h; exact h
  · rw [und_lt c1, und_gt c2] at h
    subst h
    have := rb.resolve_left c2
    omega
  · rw [und_gt c1, und_lt c2] at h
    subst h
    have := ra.resolve_left c1
    omega
  · rw [und_gt c1, und_gt c2] at h
    cases a; cases b
    simp only [P2.rev, P2.mk.injEq] at h ⊢; omega
theorem repr_ex {m : Mesh} {a : P2} (hz : m.check = 0) (ha : a ∈ alluses m.tris) : ∃ b ∈ alluses m.tris, m.repr b = true ∧ b.und = a.und := by
  by_cases h : m.repr a = true
  · exact ⟨a, ha, h, rfl⟩
  · simp only [Mesh.repr, Bool.or_eq_true, decide_eq_true_eq, not_or] at h
    have hne := alluses_ne ha
    have h1 : 0 < m.use a.rev := by
      have : 0 ≤ m.use a.rev := by unfold Mesh.use; split <;> omega
      omega
    exact ⟨a.rev, (use_pos hz).2 h1, by simp only [Mesh.repr, Bool.or_eq_true, decide_eq_true_eq]; left; show a.y < a.x; omega, und_rev a⟩

def EInv (m : Mesh) (p : List Nat × List P2) : Prop := p.2.Nodup ∧ p.2.length ≤ p.1.length ∧ p.1.length ≤ (tallyM m).length - left (tallyM m).length p.1 ∧ (∀ i ∈ p.1, i < (tallyM m).length) ∧ ∀ x, x ∈ p.2 ↔ ∃ i ∈ p.1, ∃ e n, (tallyM m)[i]? = some (e, n) ∧ m.repr e = true ∧ x = e.und

section
variable {P : Program} (hm : P.follows .mixedOrders = true)
include hm

set_option maxHeartbeats 4000000 in
theorem topo_Edges_ok {f fc fr fu fs fo : FuncId} (hf : FnOk P f (topo_Edges.c fc fr fu fs fo) topo_Edges.r topo_Edges.n) (hc : CountedC P fc) (hr : RevC P fr) (hu : UndC P fu) (hs : SortC P fs 2) (ho : OrderC P fo) (hcal : callable P fo = true) : EdgesLC P f := by
  intro m
  refine PureC.is (pure_of hm hf (Nat.le_of_ble_eq_true rfl) ?_) rfl
  unfold topo_Edges.c
  have hLl := tallyM_len m
  simp [go_sem, Mesh.enc, Mesh.cs]
  refine ACall_new (hc m) rfl ?_
  simp only [List.map_cons, List.map_nil, sh_asV]
  simp [go_sem]
  refine AS_loopG [.t 4 2] (α := List Nat × List P2) (EInv m)
    (fun p => ⟨[(3, .mp 2), (4, .own 4 (p.2.length + 1) 0 p.2.length), (9, .p 3 1 0 0)], [.dead, .dead, .mp ((tallyM m).map asV), .it (some 2) (tallyM m).length p.1, .arr (p.2.length + 1) 2 (p.2.map P2.cs)]⟩)
    (fun p => left (tallyM m).length p.1) ([], []) ⟨by simp, by simp, by simp [left], by simp, by simp⟩ ?_ ?_
  · simp [go_sem]
    exact asV_cl _ 5
  · rintro ⟨seen, out⟩ ⟨hnd, hol, hsl, hsr, hmem⟩
    simp only at hnd hol hsl hsr hmem
    simp [go_sem, Mnx]
    refine ⟨fun hall => ?_, ?_⟩
    · obtain ⟨ys, hperm, hup, hcall⟩ := hs P2.ints (fun _ => rfl) cmpE swoE fo hcal (fun a b => ho a b) out (by omega)
      have hys : ys = m.edgesL := by
        rw [asc_of_perm hperm hnd (hup.imp (by intro a b h; rw [ltE] at h; simpa using h))]
        unfold Mesh.edgesL
        by_cases hz : m.check = 0
        · rw [if_pos hz]
          refine asc_ext (ascOf_asc _) (ascOf_asc _) fun x => ?_
          rw [mem_ascOf, hmem, mem_ascOf, List.mem_map]
          constructor
          · rintro ⟨i, _, e, n, h1, h2, rfl⟩
            exact ⟨e, (tallyM_get h1).2.1, rfl⟩
          · rintro ⟨a, ha, rfl⟩
            obtain ⟨b, hb, hrb, hub⟩ := repr_ex hz ha
            obtain ⟨i, hi⟩ := tallyM_of hz hb
            exact ⟨i, hall i (List.getElem?_eq_some_iff.1 hi).1, b, _, hi, hrb, hub.symm⟩
        · rw [if_neg hz]
          refine asc_ext (ascOf_asc _) (by simp [asc]) fun x => ?_
          rw [mem_ascOf, hmem]
          constructor
          · rintro ⟨i, _, e, n, h1, _⟩
            exact absurd (tallyM_get h1).1 hz
          · simp
      refine ACall_to (hcall _ 4 _ rfl) ?_
      subst hys
      have hl2 : m.edgesL.length = out.length := hperm.length_eq
      have hy2 : m.edgesL.map (fun x => x.ints.map (V.i .i64)) = m.edgesL.map P2.cs := rfl
      rw [hy2]
      have ht : List.take out.length (m.edgesL.map P2.cs) = m.edgesL.map P2.cs := List.take_of_length_le (by simp [hl2])
      simp [go_sem, topo_Edges.r, psV, p2_isD, hl2, ht]
    · rintro i a b e n hi hab hni
      simp only [asV, Prod.mk.injEq] at hab
      obtain ⟨rfl, rfl⟩ := hab
      have hil : i < (tallyM m).length := (List.getElem?_eq_some_iff.1 hi).1
      have hg := tallyM_get hi
      have h1 : findE [1, 1] (V.a [V.i .i64 e.y, V.i .i64 e.x]) ((tallyM m).map asV) = _ := findE_asV e.rev (tallyM m)
      have hv := val_tallyM m e.rev
      have hleft := left_lt hil hni
      have hleft2 : left (tallyM m).length seen ≤ (tallyM m).length := by
        unfold left
        have := List.length_filter_le (fun i => !seen.contains i) (List.range (tallyM m).length)
        simpa using this
      have hinv : ∀ out' : List P2, (out'.Nodup ∧ out'.length ≤ seen.length + 1 ∧ ∀ x, x ∈ out' ↔ x ∈ out ∨ (x = e.und ∧ m.repr e = true)) → 
          EInv m (seen ++ [i], out') := by
        rintro out' ⟨q1, q2, q3⟩
        refine ⟨q1, by simpa using q2, by simp only [List.length_append, List.length_cons, List.length_nil]; omega, fun j hj => ?_, fun x => ?_⟩
        · rcases List.mem_append.1 hj with h | h
          · exact hsr j h
          · simp at h; omega
        · rw [q3, hmem]
          constructor
          · rintro (⟨j, h1, e', n', h2, h3⟩ | ⟨rfl, h3⟩)
            · exact ⟨j, by simp [h1], e', n', h2, h3⟩
            · exact ⟨i, by simp, e, n, hi, h3, rfl⟩
          · rintro ⟨j, h1, e', n', h2, h3, rfl⟩
            rcases List.mem_append.1 h1 with h | h
            · exact .inl ⟨j, h, e', n', h2, h3, rfl⟩
            · simp at h
              subst h
              rw [hi] at h2
              simp at h2
              obtain ⟨rfl, rfl⟩ := h2
              exact .inr ⟨rfl, h3⟩
      have hein : m.repr e = true → e.und ∉ out := by
        intro hre
        rw [hmem]
        rintro ⟨j, h1, e', n', h2, h3, h4⟩
        have hg2 := tallyM_get h2
        obtain rfl := repr_inj hg.1 hg.2.1 hg2.2.1 hre h3 h4
        have := nodup_get (tallyM_nodup m) hi h2
        subst this
        exact hni h1
      have hi1 : m.repr e = true → EInv m (seen ++ [i], out ++ [e.und]) := fun hre => hinv (out ++ [e.und]) ⟨by
        rw [List.nodup_append]
        exact ⟨hnd, by simp, fun a ha b hb => by simp at hb; subst hb; rintro rfl; exact hein hre ha⟩, by simp; omega, fun x => by simp [hre]⟩
      have hi2 : m.repr e = false → EInv m (seen ++ [i], out) := fun hre => hinv out ⟨hnd, by omega, fun x => by simp [hre]⟩
      simp [go_sem, hi, asV]
      by_cases hlt : e.x < e.y
      · have hre : m.repr e = true := by simp [Mesh.repr, hlt]
        simp (disch := omega) [go_sem, hlt]
        refine ACall_is (hu e) ?_
        simp (disch := omega) [go_sem, P2.enc, P2.cs]
        refine ⟨by omega, seen ++ [i], out ++ [e.und], hi1 hre, hleft, ?_⟩
        simp [pcs]
        exact asV_cl _ 5
      · simp (disch := omega) [go_sem, hlt]
        refine ACall_is (hr e) ?_
        unfold val at hv
        cases hfn : fnd e.rev (tallyM m) with
        | none =>
          rw [hfn] at h1 hv
          simp only [Option.map_none] at h1
          simp only at hv
          have hre : m.repr e = true := by simp [Mesh.repr, ← hv]
          simp (disch := omega) [go_sem, h1, P2.rev, P2.enc, P2.cs]
          refine ACall_is (hu e) ?_
          simp (disch := omega) [go_sem, P2.enc, P2.cs]
          refine ⟨by omega, seen ++ [i], out ++ [e.und], hi1 hre, hleft, ?_⟩
          simp [pcs]
          exact asV_cl _ 5
        | some p =>
          obtain ⟨j, n'⟩ := p
          rw [hfn] at h1 hv
          simp only [Option.map_some] at h1
          simp only at hv
          by_cases hn0 : n' = 0
          · have hre : m.repr e = true := by simp [Mesh.repr, ← hv, hn0]
            simp (disch := omega) [go_sem, h1, P2.rev, P2.enc, P2.cs, hn0]
            refine ACall_is (hu e) ?_
            simp (disch := omega) [go_sem, P2.enc, P2.cs]
            refine ⟨by omega, seen ++ [i], out ++ [e.und], hi1 hre, hleft, ?_⟩
            simp [pcs]
            exact asV_cl _ 5
          · have hre : m.repr e = false := by simp [Mesh.repr, ← hv, hn0]; omega
            simp (disch := omega) [go_sem, h1, P2.rev, P2.enc, P2.cs, hn0]
            refine ⟨seen ++ [i], out, hi2 hre, hleft, ?_⟩
            exact ⟨rfl, asV_cl _ 5, rfl, rfl, rfl⟩
end
end Go.Abs
set_option linter.unusedVariables false
set_option linter.unusedSimpArgs false
namespace Go.Abs

def isV (l : List Int) : V := .l 1 (l.map fun x => [.i .i64 x])
section
variable {P : Program} (hm : P.follows .mixedOrders = true)
include hm

end
end Go.Abs
set_option linter.unusedVariables false
set_option linter.unusedSimpArgs false
namespace Go.Abs

def bl (n : Nat) (g : Nat → Bool) : List (List V) := (List.range n).map fun j => [.b (g j)]
theorem bl_len (n : Nat) (g : Nat → Bool) : (bl n g).length = n := by simp [bl]
theorem bl_get {n : Nat} {g : Nat → Bool} {i : Nat} (h : i < n) : (bl n g)[i]? = some [.b (g i)] := by simp [bl, h]
theorem bl_rep (n : Nat) : List.replicate n [V.b false] = bl n (fun _ => false) := by
  apply List.ext_getElem?
  intro i
  by_cases h : i < n
  · rw [bl_get h]; simp [h]
  · rw [List.getElem?_eq_none (by simp; omega), List.getElem?_eq_none (by rw [bl_len]; omega)]
theorem bl_set (n : Nat) (g : Nat → Bool) (i : Nat) (b : Bool) : (bl n g).set i [.b b] = bl n (fun j => if j = i then b else g j) := by
  apply List.ext_getElem?
  intro j
  by_cases h : j < n
  · rw [bl_get h]
    by_cases hj : i = j
    · subst hj
      rw [List.getElem?_set_self (by rw [bl_len]; exact h), if_pos rfl]
    · rw [List.getElem?_set_ne hj, bl_get h, if_neg (fun hh => hj hh.symm)]
  · rw [List.getElem?_eq_none (by simp [bl_len]; omega), List.getElem?_eq_none (by rw [bl_len]; omega)]
theorem bl_cl (n : Nat) (g : Nat → Bool) (k : Nat) : ∀ el ∈ bl n g, ∀ x ∈ el, x.cl k = true := by
  intro el hel x hx
  obtain ⟨j, _, rfl⟩ := List.mem_map.1 hel
  simp at hx; subst hx; rfl
end Go.Abs
