/- What Boundary, Closed and Uses of package topo do to values. -/
import Derived.Test.YtlmjnmmppffhaaaGoToA
set_option linter.unusedVariables false
set_option linter.unusedSimpArgs false
namespace Go.Abs
open Go.Sort Go.Proofs

def bordE (E : List P2) (e : P2) : Bool := decide (E.count e.rev < E.count e)
def border (E : List P2) : List P2 := ascOf (E.filter (bordE E))
def Mesh.border (m : Mesh) : List P2 := if m.check = 0 then Go.Abs.border (alluses m.tris) else []
def Mesh.closed (m : Mesh) : Bool := decide (m.check = 0) && decide (m.border = [])
def BoundaryC (P : Program) (f : FuncId) : Prop := ∀ m : Mesh, CallIs P f [m.enc] (psV m.border)
def ClosedC (P : Program) (f : FuncId) : Prop := ∀ m : Mesh, CallIs P f [m.enc] (.b m.closed)
def Mesh.use (m : Mesh) (e : P2) : Int := if m.check = 0 then (alluses m.tris).count e else 0
def UsesC (P : Program) (f : FuncId) : Prop := ∀ (m : Mesh) (e : P2), CallIs P f [m.enc, e.enc] (.t [.i .i64 (m.use e), .i .i64 (m.use e.rev)])

theorem sh_asV (L : List (P2 × Int)) (n : Nat) : (O.mp (L.map asV)).sh n = .mp (L.map asV) := by
  simp [O.sh, asV, V.sh2, V.sh1, V.sh0]
theorem val_tallyM (m : Mesh) (e : P2) : val e (tallyM m) = m.use e := by
  unfold tallyM Mesh.use
  split
  · exact val_tally _ _
  · rfl
theorem tallyM_get {m : Mesh} {i : Nat} {e : P2} {n : Int} (h : (tallyM m)[i]? = some (e, n)) : m.check = 0 ∧ e ∈ alluses m.tris ∧ n = m.use e := by
  unfold tallyM at h
  split at h
  · rename_i hz
    have := tally_get h
    exact ⟨hz, this.1, by simp [Mesh.use, hz, this.2]⟩
  · simp at h
theorem tallyM_of {m : Mesh} {e : P2} (hz : m.check = 0) (h : e ∈ alluses m.tris) : ∃ i : Nat, (tallyM m)[i]? = some (e, m.use e) := by
  unfold tallyM Mesh.use
  rw [if_pos hz, if_pos hz]
  exact tally_of h
theorem tallyM_nodup (m : Mesh) : ((tallyM m).map Prod.fst).Nodup := by
  unfold tallyM
  split
  · exact (tally_keys _).1
  · simp
theorem tallyM_len (m : Mesh) : (tallyM m).length ≤ 12288 := by
  unfold tallyM
  split
  · rename_i hz
    have h1 := (tally_keys (alluses m.tris)).2
    have h3 := alluses_len m.tris m.tris.length
    rw [List.take_length] at h3
    have h4 := (Mesh.check_zero.1 hz).2.1
    have h5 : ∀ E : List P2, (tally E).length ≤ E.length := by
      refine rev_ind (by simp [tally]) fun E x ih => ?_
      rw [tally_snoc]
      unfold addE
      split <;> simp <;> omega
    have := h5 (alluses m.tris)
    omega
  · simp
theorem lkV {m : List (P2 × Int)} {e : P2} : (match (fnd e m).map (fun p => (p.1, V.i .i64 p.2)) with | some (_, v) => v | none => V.i .i64 0) = V.i .i64 (val e m) := by
  unfold val
  cases fnd e m <;> rfl
theorem mem_border {m : Mesh} {e : P2} : e ∈ m.border ↔ m.check = 0 ∧ e ∈ alluses m.tris ∧ m.use e.rev < m.use e := by
  unfold Mesh.border Mesh.use
  by_cases hz : m.check = 0
  · simp only [if_pos hz]
    unfold Go.Abs.border bordE
    rw [mem_ascOf, List.mem_filter]
    simp [hz]
  · simp [hz]
theorem border_asc (m : Mesh) : asc m.border := by
  unfold Mesh.border
  split
  · exact ascOf_asc _
  · simp [asc]
theorem nodup_get {L : List (P2 × Int)} (h : (L.map Prod.fst).Nodup) {i j : Nat} {e : P2} {n n' : Int} (hi : L[i]? = some (e, n)) (hj : L[j]? = some (e, n')) : i = j := by
  have h1 := fnd_of_get h hi
  have h2 := fnd_of_get h hj
  rw [h1] at h2
  simp at h2; exact h2.1

def BInv (m : Mesh) (p : List Nat × List P2) : Prop := p.2.Nodup ∧ p.2.length ≤ p.1.length ∧ p.1.length ≤ (tallyM m).length - left (tallyM m).length p.1 ∧ (∀ i ∈ p.1, i < (tallyM m).length) ∧ ∀ x, x ∈ p.2 ↔ ∃ i ∈ p.1, ∃ n, (tallyM m)[i]? = some (x, n) ∧ m.use x.rev < m.use x

section
variable {P : Program} (hm : P.follows .mixedOrders = true)
include hm

set_option maxHeartbeats 4000000 in
theorem topo_Boundary_ok {f fc fr fs fo : FuncId} (hf : FnOk P f (topo_Boundary.c fc fr fs fo) topo_Boundary.r topo_Boundary.n) (hc : CountedC P fc) (hr : RevC P fr) (hs : SortC P fs 2) (ho : OrderC P fo) (hcal : callable P fo = true) : BoundaryC P f := by
  intro m
  refine PureC.is (pure_of hm hf (Nat.le_of_ble_eq_true rfl) ?_) rfl
  unfold topo_Boundary.c
  have hLl := tallyM_len m
  simp [go_sem, Mesh.enc, Mesh.cs]
  refine ACall_new (hc m) rfl ?_
  simp only [List.map_cons, List.map_nil, sh_asV]
  simp [go_sem]
  refine AS_loopG [.t 4 2] (α := List Nat × List P2) (BInv m)
    (fun p => ⟨[(3, .mp 2), (4, .own 4 (p.2.length + 1) 0 p.2.length), (10, .p 3 1 0 0)], [.dead, .dead, .mp ((tallyM m).map asV), .it (some 2) (tallyM m).length p.1, .arr (p.2.length + 1) 2 (p.2.map P2.cs)]⟩)
    (fun p => left (tallyM m).length p.1) ([], []) ⟨by simp, by simp, by simp [left], by simp, by simp⟩ ?_ ?_
  · simp [go_sem]
    exact asV_cl _ 5
  · rintro ⟨seen, out⟩ ⟨hnd, hol, hsl, hsr, hmem⟩
    simp only at hnd hol hsl hsr hmem
    simp [go_sem, Mnx]
    refine ⟨fun hall => ?_, ?_⟩
    · obtain ⟨ys, hperm, hup, hcall⟩ := hs P2.ints (fun _ => rfl) cmpE swoE fo hcal (fun a b => ho a b) out (by omega)
      have hys : ys = m.border := by
        rw [asc_of_perm hperm hnd (hup.imp (by intro a b h; rw [ltE] at h; simpa using h))]
        refine asc_ext (ascOf_asc _) (border_asc m) fun x => ?_
        rw [mem_ascOf, hmem, mem_border]
        constructor
        · rintro ⟨i, _, n, h1, h2⟩
          have := tallyM_get h1
          exact ⟨this.1, this.2.1, h2⟩
        · rintro ⟨h1, h2, h3⟩
          obtain ⟨i, hi⟩ := tallyM_of h1 h2
          exact ⟨i, hall i (List.getElem?_eq_some_iff.1 hi).1, _, hi, h3⟩
      refine ACall_to (hcall _ 4 _ rfl) ?_
      subst hys
      have hl2 : m.border.length = out.length := hperm.length_eq
      have hy2 : m.border.map (fun x => x.ints.map (V.i .i64)) = m.border.map P2.cs := rfl
      rw [hy2]
      have ht : List.take out.length (m.border.map P2.cs) = m.border.map P2.cs := List.take_of_length_le (by simp [hl2])
      simp [go_sem, topo_Boundary.r, psV, p2_isD, hl2, ht]
    · rintro i a b e n hi hab hni
      simp only [asV, Prod.mk.injEq] at hab
      obtain ⟨rfl, rfl⟩ := hab
      have hil : i < (tallyM m).length := (List.getElem?_eq_some_iff.1 hi).1
      have hg := tallyM_get hi
      simp [go_sem, hi, asV]
      refine ACall_is (hr e) ?_
      have h1 : findE [1, 1] (V.a [V.i .i64 e.y, V.i .i64 e.x]) ((tallyM m).map asV) = _ := findE_asV e.rev (tallyM m)
      have hv := val_tallyM m e.rev
      have hleft := left_lt hil hni
      have hleft2 : left (tallyM m).length seen ≤ (tallyM m).length := by
        unfold left
        have := List.length_filter_le (fun i => !seen.contains i) (List.range (tallyM m).length)
        simpa using this
      have hinv : ∀ out' : List P2, (out'.Nodup ∧ out'.length ≤ seen.length + 1 ∧ ∀ x, x ∈ out' ↔ x ∈ out ∨ (x = e ∧ m.use e.rev < m.use e)) → 
          BInv m (seen ++ [i], out') := by
        rintro out' ⟨q1, q2, q3⟩
        refine ⟨q1, by simpa using q2, by simp only [List.length_append, List.length_cons, List.length_nil]; omega, fun j hj => ?_, fun x => ?_⟩
        · rcases List.mem_append.1 hj with h | h
          · exact hsr j h
          · simp at h; omega
        · rw [q3, hmem]
          constructor
          · rintro (⟨j, h1, n', h2, h3⟩ | ⟨rfl, h3⟩)
            · exact ⟨j, by simp [h1], n', h2, h3⟩
            · exact ⟨i, by simp, n, hi, h3⟩
          · rintro ⟨j, h1, n', h2, h3⟩
            rcases List.mem_append.1 h1 with h | h
            · exact .inl ⟨j, h, n', h2, h3⟩
            · simp at h
              subst h
              rw [hi] at h2
              simp at h2
              obtain ⟨rfl, rfl⟩ := h2
              exact .inr ⟨rfl, h3⟩
      have hein : e ∉ out := by
        rw [hmem]
        rintro ⟨j, h1, n', h2, _⟩
        have := nodup_get (tallyM_nodup m) hi h2
        subst this
        exact hni h1
      have hn := hg.2.2
      have hi1 := hinv (out ++ [e])
      have hi2 := hinv out
      cases hfn : fnd e.rev (tallyM m) with
      | none =>
        rw [hfn] at h1
        rw [val, hfn] at hv
        simp only at hv
        simp only [Option.map_none] at h1
        by_cases hlt : 0 < n
        · simp (disch := omega) [go_sem, h1, P2.rev, P2.enc, P2.cs, hlt]
          refine ⟨by omega, seen ++ [i], out ++ [e], hi1 ⟨?_, by simp; omega, fun x => ?_⟩, hleft, ?_⟩
          · rw [List.nodup_append]
            exact ⟨hnd, by simp, fun a ha b hb => by simp at hb; subst hb; rintro rfl; exact hein ha⟩
          · rw [List.mem_append, List.mem_singleton]
            have : m.use e.rev < m.use e := by omega
            simp [this]
          · simp [pcs]
            exact asV_cl _ 5
        · simp (disch := omega) [go_sem, h1, P2.rev, P2.enc, P2.cs, hlt]
          refine ⟨seen ++ [i], out, hi2 ⟨hnd, by omega, fun x => ?_⟩, hleft, ?_⟩
          · have : ¬ m.use e.rev < m.use e := by omega
            simp [this]
          · exact ⟨rfl, asV_cl _ 5, rfl, rfl, rfl⟩
      | some p =>
        obtain ⟨j, n'⟩ := p
        rw [hfn] at h1
        rw [val, hfn] at hv
        simp only at hv
        simp only [Option.map_some] at h1
        by_cases hlt : n' < n
        · simp (disch := omega) [go_sem, h1, P2.rev, P2.enc, P2.cs, hlt]
          refine ⟨by omega, seen ++ [i], out ++ [e], hi1 ⟨?_, by simp; omega, fun x => ?_⟩, hleft, ?_⟩
          · rw [List.nodup_append]
            exact ⟨hnd, by simp, fun a ha b hb => by simp at hb; subst hb; rintro rfl; exact hein ha⟩
          · rw [List.mem_append, List.mem_singleton]
            have : m.use e.rev < m.use e := by omega
            simp [this]
          · simp [pcs]
            exact asV_cl _ 5
        · simp (disch := omega) [go_sem, h1, P2.rev, P2.enc, P2.cs, hlt]
          refine ⟨seen ++ [i], out, hi2 ⟨hnd, by omega, fun x => ?_⟩, hleft, ?_⟩
          · have : ¬ m.use e.rev < m.use e := by omega
            simp [this]
          · exact ⟨rfl, asV_cl _ 5, rfl, rfl, rfl⟩

theorem topo_Closed_ok {f fc fb : FuncId} (hf : FnOk P f (topo_Closed.c fc fb) topo_Closed.r topo_Closed.n) (hc : CheckC P fc) (hb : BoundaryC P fb) : ClosedC P f := by
  intro m
  refine PureC.is (pure_of hm hf (Nat.le_of_ble_eq_true rfl) ?_) rfl
  unfold topo_Closed.c
  simp [go_sem, Mesh.enc, Mesh.cs]
  refine ACall_is (hc m) ?_
  by_cases h : m.check = 0
  · simp [go_sem, h]
    refine ACall_is (hb m) ?_
    simp [go_sem, psV, topo_Closed.r, Mesh.closed, h]
    rw [Bool.eq_iff_iff]; simp
  · have h' : (m.check == 0) = false := by simpa using h
    simp [go_sem, h, h', topo_Closed.r, Mesh.closed]

theorem topo_Uses_ok {f fc fr : FuncId} (hf : FnOk P f (topo_Uses.c fc fr) topo_Uses.r topo_Uses.n) (hc : CountedC P fc) (hr : RevC P fr) : UsesC P f := by
  intro m e
  refine PureC.is (pure_of hm hf (Nat.le_of_ble_eq_true rfl) ?_) rfl
  unfold topo_Uses.c
  simp [go_sem, Mesh.enc, Mesh.cs, P2.enc, P2.cs]
  refine ACall_new (hc m) rfl ?_
  simp only [List.map_cons, List.map_nil, sh_asV]
  have h1 := findE_asV e (tallyM m)
  have h2 : findE [1, 1] (V.a [V.i .i64 e.y, V.i .i64 e.x]) ((tallyM m).map asV) = _ := findE_asV e.rev (tallyM m)
  have v1 := val_tallyM m e
  have v2 := val_tallyM m e.rev
  unfold val at v1 v2
  cases hf1 : fnd e (tallyM m) <;> cases hf2 : fnd e.rev (tallyM m) <;> rw [hf1] at h1 v1 <;> rw [hf2] at h2 v2 <;> simp only [Option.map_some, Option.map_none] at h1 h2 v1 v2
  all_goals
    simp [go_sem, h1]
    refine DCall_is (hr e) ?_
    simp [go_sem, h2, P2.enc, P2.cs, P2.rev, topo_Uses.r, v1, v2]
    try simp [← v1, ← v2]
    try simp [P2.rev] at v2
    try simp [v2]
end
end Go.Abs

