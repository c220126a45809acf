/- Part of the abstract machine on which the proof stands: its values, code and their soundness against the model. -/
import Derived.Test.YtlmjnmmppffhaaaGoHeap
import Derived.Test.YtlmjnmmppffhaaaGoSu
import Derived.Test.YtlmjnmmppffhaaaGoRevC
import Derived.Test.YtlmjnmmppffhaaaGoTpE
set_option linter.unusedVariables false
set_option linter.unusedSimpArgs false
namespace Go.Abs

def law10_TopoTurns.c (law10_heavy law10_awake mesh_Reverse mesh_Check topo_Uses topo_Edges law10_edges topo_Shells law10_lists topo_Closed : FuncId) : C :=
 (.seq
 (.reg [
 ⟨(some 2), none, .box (.t 0)⟩,
 ⟨(some 3), none, .box (.t 1)⟩,
 ⟨(some 4), none, .mv (.c (.b false))⟩])
 (.seq
 (.seq
 (.reg [
 ⟨(some 10), none, .ld (some 2) (.t 2)⟩,
 ⟨(some 11), none, .call law10_heavy [(.t 10)]⟩])
 (.ite (.t 11)
 (.seq
 (.reg [
 ⟨(some 12), none, .call law10_awake []⟩,
 ⟨(some 4), none, .mv (.t 12)⟩])
 .ret)
 .skip))
 (.seq
 (.reg [
 ⟨(some 13), none, .ld (some 2) (.t 2)⟩,
 ⟨(some 14), none, .call mesh_Reverse [(.t 13)]⟩,
 ⟨(some 5), none, .alloc [.nil, .nil]⟩,
 ⟨none, none, .st 2 (.t 5) (.t 14)⟩])
 (.seq
 (.seq
 (.reg [
 ⟨(some 15), none, .ld (some 2) (.t 2)⟩,
 ⟨(some 16), none, .call mesh_Check [(.t 15)]⟩,
 ⟨(some 17), none, .bin .neq (.t 16) (.c (.i .i64 0))⟩])
 (.ite (.t 17)
 (.seq
 (.reg [
 ⟨(some 18), none, .call law10_awake []⟩,
 ⟨(some 4), none, .mv (.t 18)⟩])
 .ret)
 .skip))
 (.seq
 (.reg [
 ⟨(some 20), none, .ld (some 2) (.t 2)⟩,
 ⟨(some 21), none, .ld (some 2) (.t 3)⟩,
 ⟨(some 22), none, .call topo_Uses [(.t 20), (.t 21)]⟩,
 ⟨(some 19), none, .mv (.t 22)⟩,
 ⟨(some 23), none, .ext (.t 19) 0⟩,
 ⟨(some 24), none, .ext (.t 19) 1⟩,
 ⟨(some 6), none, .mv (.t 23)⟩,
 ⟨(some 7), none, .mv (.t 24)⟩])
 (.seq
 (.reg [
 ⟨(some 26), none, .ld (some 2) (.t 5)⟩,
 ⟨(some 27), none, .ld (some 2) (.t 3)⟩,
 ⟨(some 28), none, .call topo_Uses [(.t 26), (.t 27)]⟩,
 ⟨(some 25), none, .mv (.t 28)⟩,
 ⟨(some 29), none, .ext (.t 25) 0⟩,
 ⟨(some 30), none, .ext (.t 25) 1⟩,
 ⟨(some 8), none, .mv (.t 29)⟩,
 ⟨(some 9), none, .mv (.t 30)⟩])
 (.seq
 (.drw [
 ⟨(some 31), none, .mv (.t 6)⟩,
 ⟨(some 32), none, .mv (.t 9)⟩,
 ⟨(some 33), none, .bin .eql (.t 31) (.t 32)⟩,
 ⟨(some 34), none, .mv (.t 33)⟩,
 ⟨(some 35), (some (34, true)), .mv (.t 7)⟩,
 ⟨(some 36), (some (34, true)), .mv (.t 8)⟩,
 ⟨(some 37), (some (34, true)), .bin .eql (.t 35) (.t 36)⟩,
 ⟨(some 38), none, .pick (.t 34) (.t 37) (.c (.b false))⟩,
 ⟨(some 39), none, .mv (.t 38)⟩,
 ⟨(some 40), (some (39, true)), .ld (some 2) (.t 2)⟩,
 ⟨(some 41), (some (39, true)), .call topo_Edges [(.t 40)]⟩,
 ⟨(some 42), (some (39, true)), .ld (some 2) (.t 5)⟩,
 ⟨(some 43), (some (39, true)), .call topo_Edges [(.t 42)]⟩,
 ⟨(some 44), (some (39, true)), .call law10_edges [(.t 41), (.t 43)]⟩,
 ⟨(some 45), none, .pick (.t 39) (.t 44) (.c (.b false))⟩,
 ⟨(some 46), none, .mv (.t 45)⟩,
 ⟨(some 47), (some (46, true)), .ld (some 2) (.t 2)⟩,
 ⟨(some 48), (some (46, true)), .call topo_Shells [(.t 47)]⟩,
 ⟨(some 49), (some (46, true)), .ld (some 2) (.t 5)⟩,
 ⟨(some 50), (some (46, true)), .call topo_Shells [(.t 49)]⟩,
 ⟨(some 51), (some (46, true)), .call law10_lists [(.t 48), (.t 50)]⟩,
 ⟨(some 52), none, .pick (.t 46) (.t 51) (.c (.b false))⟩,
 ⟨(some 53), none, .mv (.t 52)⟩,
 ⟨(some 54), (some (53, true)), .ld (some 2) (.t 2)⟩,
 ⟨(some 55), (some (53, true)), .call topo_Closed [(.t 54)]⟩,
 ⟨(some 56), (some (53, true)), .ld (some 2) (.t 5)⟩,
 ⟨(some 57), (some (53, true)), .call topo_Closed [(.t 56)]⟩,
 ⟨(some 58), (some (53, true)), .eqb false (.t 55) (.t 57)⟩,
 ⟨(some 59), none, .pick (.t 53) (.t 58) (.c (.b false))⟩,
 ⟨(some 60), none, .mv (.t 59)⟩,
 ⟨(some 61), (some (60, true)), .call law10_awake []⟩,
 ⟨(some 62), none, .pick (.t 60) (.t 61) (.c (.b false))⟩,
 ⟨(some 4), none, .mv (.t 62)⟩] [[], [], [], [], [], [], [], [], [], [], [], [10], [], [], [], [], [], [], [17], [], [], [], [], [], [], [24], [], [], [], [], [], [], []])
 .ret)))))))
def law10_TopoTurns.r : List Rr := [.tmp 4]
abbrev law10_TopoTurns.n : Nat := 63
end Go.Abs

set_option linter.unusedVariables false
set_option linter.unusedSimpArgs false
namespace Go.Abs

theorem rev_rev (e : P2) : e.rev.rev = e := rfl
theorem rev_und (e : P2) : e.rev.und = e.und := by
  unfold P2.rev P2.und
  simp only [P2.mk.injEq]
  exact ⟨Int.min_comm _ _, Int.max_comm _ _⟩
theorem edgesOf_rev (t : T3) : edgesOf t.rev = ((edgesOf t).map P2.rev).reverse := by
  have h1 : edges3 t.rev = ((edges3 t).map P2.rev).reverse := rfl
  have h2 : ((fun e : P2 => decide (e.x ≠ e.y)) ∘ P2.rev) = fun e : P2 => decide (e.x ≠ e.y) := by
    funext e
    show decide (e.y ≠ e.x) = decide (e.x ≠ e.y)
    rw [decide_eq_decide]
    exact ne_comm
  have h3 : ∀ t, edgesOf t = (edges3 t).filter fun e => decide (e.x ≠ e.y) := fun t => rfl
  rw [h3, h3, h1, List.filter_reverse, List.filter_map, h2]
theorem mem_edges_rev {t : T3} {e : P2} : e ∈ edgesOf t.rev ↔ e.rev ∈ edgesOf t := by
  rw [edgesOf_rev, List.mem_reverse, List.mem_map]
  constructor
  · rintro ⟨a, ha, rfl⟩; exact ha
  · intro h; exact ⟨_, h, rfl⟩
theorem alluses_rev (ts : List T3) : (alluses (ts.map T3.rev)).Perm ((alluses ts).map P2.rev) := by
  induction ts with
  | nil => exact .refl _
  | cons t ts ih =>
    show (edgesOf t.rev ++ alluses (ts.map T3.rev)).Perm ((edgesOf t ++ alluses ts).map P2.rev)
    rw [List.map_append, edgesOf_rev]
    exact (List.reverse_perm _).append ih
theorem countA_rev (ts : List T3) (e : P2) : (alluses (ts.map T3.rev)).count e = (alluses ts).count e.rev := by
  rw [(alluses_rev ts).count_eq, count_rev]
theorem rev_checkT {m : Mesh} (h : m.check = 0) : m.rev.check = 0 := by
  obtain ⟨z1, z2, z3, z4⟩ := Mesh.check_zero.1 h
  refine Mesh.check_zero.2 ⟨z1, by simpa [Mesh.rev] using z2, z3, ?_⟩
  simp only [tsOk, List.all_eq_true, Mesh.rev, List.mem_map] at z4 ⊢
  rintro x ⟨t, ht, rfl⟩
  have := T3.ok_iff.1 (z4 t ht)
  exact T3.ok_iff.2 ⟨this.1, this.2.1, this.2.2.2.2.1, this.2.2.2.2.2, this.2.2.1, this.2.2.2.1⟩

theorem use_revM {m : Mesh} (hz : m.check = 0) (e : P2) : m.rev.use e = m.use e.rev := by
  unfold Mesh.use
  rw [if_pos hz, if_pos (rev_checkT hz)]
  show ((alluses (m.tris.map T3.rev)).count e : Int) = _
  rw [countA_rev]
theorem edgesL_rev {m : Mesh} (hz : m.check = 0) : m.rev.edgesL = m.edgesL := by
  unfold Mesh.edgesL
  rw [if_pos hz, if_pos (rev_checkT hz)]
  refine asc_ext (ascOf_asc _) (ascOf_asc _) fun a => ?_
  rw [mem_ascOf, mem_ascOf, List.mem_map, List.mem_map]
  show (∃ e, e ∈ alluses (m.tris.map T3.rev) ∧ _) ↔ _
  constructor
  · rintro ⟨e, he, rfl⟩
    obtain ⟨b, hb, rfl⟩ := List.mem_map.1 ((alluses_rev _).mem_iff.1 he)
    exact ⟨b, hb, (rev_und b).symm⟩
  · rintro ⟨e, he, rfl⟩
    exact ⟨e.rev, (alluses_rev _).mem_iff.2 (List.mem_map.2 ⟨e, he, rfl⟩), rev_und e⟩
theorem closed_rev {m : Mesh} (hz : m.check = 0) : m.rev.closed = m.closed := by
  unfold Mesh.closed
  have key : ∀ e, e ∈ m.rev.border ↔ e.rev ∈ m.border := fun e => by
    rw [mem_border, mem_border, use_revM hz, use_revM hz]
    show (m.rev.check = 0 ∧ e ∈ alluses (m.tris.map T3.rev) ∧ _) ↔ _
    rw [(alluses_rev m.tris).mem_iff, List.mem_map]
    constructor
    · rintro ⟨_, ⟨a, ha, rfl⟩, h⟩
      exact ⟨hz, ha, h⟩
    · rintro ⟨_, h1, h⟩
      exact ⟨rev_checkT hz, ⟨e.rev, h1, rfl⟩, h⟩
  have : m.rev.border = [] ↔ m.border = [] := by
    rw [List.eq_nil_iff_forall_not_mem, List.eq_nil_iff_forall_not_mem]
    exact ⟨fun h e he => h e.rev ((key _).2 he), fun h e he => h e.rev ((key e).1 he)⟩
  simp [hz, rev_checkT hz, this]
theorem adj_rev {ts : List T3} {i j : Nat} (h : adjI ts i j) : adjI (ts.map T3.rev) i j := by
  obtain ⟨s, t, hs, ht, a, ha, b, hb, hab⟩ := h
  refine ⟨s.rev, t.rev, by rw [List.getElem?_map, hs]; rfl, by rw [List.getElem?_map, ht]; rfl, a.rev, mem_edges_rev.2 ha, b.rev, mem_edges_rev.2 hb, ?_⟩
  rw [rev_und, rev_und]; exact hab
theorem revrev (ts : List T3) : (ts.map T3.rev).map T3.rev = ts := by
  rw [List.map_map]
  exact List.map_id _
theorem adj_rev' {ts : List T3} {i j : Nat} (h : adjI (ts.map T3.rev) i j) : adjI ts i j := by
  have := adj_rev h
  rwa [revrev] at this
theorem conn_rev {ts : List T3} {i j : Nat} (h : Conn ts i j) : Conn (ts.map T3.rev) i j := by
  induction h with
  | refl h => exact .refl (by simpa using h)
  | tail _ h2 ih => exact .tail ih (adj_rev h2)
theorem lab_rev {ts : List T3} {L : List Int} (h : IsLab ts L) : IsLab (ts.map T3.rev) L where
  len := by rw [h.len, List.length_map]
  con i v hv := by
    obtain ⟨h1, h2, h3⟩ := h.con i v hv
    exact ⟨h1, h2, conn_rev h3⟩
  adj i j ha := h.adj i j (adj_rev' ha)
theorem shells_rev {m : Mesh} (hz : m.check = 0) : m.rev.shells = m.shells := by
  obtain ⟨L, hL⟩ := lab_ex m.tris
  unfold Mesh.shells
  rw [if_pos hz, if_pos (rev_checkT hz), labOf_eq hL]
  show shsK (labOf (m.tris.map T3.rev)) _ = _
  rw [show m.rev.tris = m.tris.map T3.rev from rfl, labOf_eq (lab_rev hL)]
end Go.Abs

set_option linter.unusedVariables false
set_option linter.unusedSimpArgs false
namespace Go.Abs

def ReverseNC (P : Program) (f : FuncId) : Prop := ∀ m : Mesh, m.check ≠ 0 → CallIs P f [m.enc] (Mesh.mk [] []).enc
theorem shells_len {m : Mesh} (hz : m.check = 0) : m.shells.length ≤ 1000000 ∧ ∀ l ∈ m.shells, l.length ≤ 1000000 := by
  obtain ⟨L, hL⟩ := lab_ex m.tris
  have hR : m.shells = shsK L m.tris.length := by unfold Mesh.shells; rw [if_pos hz, labOf_eq hL, hL.len]
  have hl := (Mesh.check_zero.1 hz).2.1
  rw [hR]
  unfold shsK
  refine ⟨?_, fun l hl' => ?_⟩
  · rw [List.length_map]
    have := List.length_filter_le (fun (i : Nat) => decide (L[i]? = some (i : Int))) (List.range m.tris.length)
    rw [List.length_range] at this
    omega
  · obtain ⟨i, _, rfl⟩ := List.mem_map.1 hl'
    unfold shK
    rw [List.length_map]
    have := List.length_filter_le (fun (j : Nat) => decide (L[j]? = some (i : Int))) (List.range L.length)
    rw [List.length_range, hL.len] at this
    rw [hL.len]
    omega
section
variable {P : Program} (hm : P.follows .mixedOrders = true)
include hm

theorem mesh_ReverseN_ok {f fc : FuncId} (hf : FnOk P f (mesh_Reverse.c fc) mesh_Reverse.r mesh_Reverse.n) (hc : CheckC P fc) : ReverseNC P f := by
  intro m hz
  refine CallIs.res (r := .a [.nil, .nil]) ?_ (by
    refine .inl (.inr ⟨_, _, rfl, rfl, ?_⟩)
    exact ⟨Le0.nil _, Le0.nil _, trivial⟩)
  refine PureC.is (pure_of hm hf (Nat.le_of_ble_eq_true rfl) ?_) rfl
  unfold mesh_Reverse.c
  simp [go_sem, Mesh.enc, Mesh.cs, vsV, tsV]
  refine ACall_is (hc m) ?_
  simp [go_sem, hz, mesh_Reverse.r]
  done

set_option maxRecDepth 20000 in
set_option maxHeartbeats 8000000 in
theorem TopoTurns_ok {f fh fa fr fc fu fe fp fs fl fd : FuncId} (hf : FnOk P f (law10_TopoTurns.c fh fa fr fc fu fe fp fs fl fd) law10_TopoTurns.r law10_TopoTurns.n) (hh : HeavyC P fh) (ha : AwakeC P fa) (hr : ReverseC P fr) (hn : ReverseNC P fr) (hc : CheckC P fc) (hu : UsesC P fu) (he : EdgesLC P fe) (hp : EqPC P fp) (hs : ShellsC P fs) (hl : EqLC P fl) (hd : ClosedC P fd)
    (m : Mesh) (e : P2) : PureC P f [m.enc, e.enc] (· = .b true) := by
  refine pure_of hm hf (Nat.le_of_ble_eq_true rfl) ?_
  unfold law10_TopoTurns.c
  have hh1 := hh m
  have hc1 := hc m
  simp only [Mesh.enc, Mesh.cs] at hh1 hc1
  simp [go_sem, Mesh.enc, Mesh.cs, P2.enc, P2.cs]
  refine ACall_is hh1 ?_
  cases hhv : m.heavy
  case true =>
    simp [go_sem]
    refine ACall_is ha ?_
    simp [go_sem, law10_TopoTurns.r]
  by_cases hz : m.check = 0
  case neg =>
    have hn1 := hn m hz
    simp only [Mesh.enc, Mesh.cs] at hn1
    simp [go_sem]
    refine ACall_is hn1 ?_
    simp [go_sem, vsV, tsV]
    refine ACall_is hc1 ?_
    simp [go_sem, hz]
    refine ACall_is ha ?_
    simp [go_sem, law10_TopoTurns.r]
  have hr1 := hr m hz
  have hu1 := hu m e
  have hu2 := hu m.rev e
  have he1 := he m
  have he2 := he m.rev
  have hs1 := hs m
  have hs2 := hs m.rev
  have hd1 := hd m
  have hd2 := hd m.rev
  rw [edgesL_rev hz] at he2
  rw [shells_rev hz] at hs2
  rw [closed_rev hz] at hd2
  rw [use_revM hz, use_revM hz, rev_rev] at hu2
  simp only [Mesh.enc, Mesh.cs, P2.enc, P2.cs] at hr1 hu1 hu2 he1 he2 hs1 hs2 hd1 hd2
  simp [go_sem]
  refine ACall_is hr1 ?_
  simp [go_sem]
  have hq1 := hp m.edgesL (by have := edgesL_len (m := m); omega)
  have hq2 := hl m.shells (shells_len hz).1 (shells_len hz).2
  generalize m.edgesL = E at *
  generalize m.shells = ls at *
  generalize m.closed = cl at *
  generalize m.use e = u1 at *
  generalize m.use e.rev = u2 at *
  refine ACall_is hc1 ?_
  simp [go_sem, hz]
  refine ACall_is hu1 ?_
  simp [go_sem]
  refine ACall_is hu2 ?_
  simp [go_sem]
  refine DCall_is he1 ?_
  simp [go_sem]
  refine DCall_is he2 ?_
  simp [go_sem]
  refine DCall_is hq1 ?_
  simp [go_sem]
  refine DCall_is hs1 ?_
  simp [go_sem]
  refine DCall_is hs2 ?_
  simp [go_sem]
  refine DCall_is hq2 ?_
  simp [go_sem]
  refine DCall_is hd1 ?_
  simp [go_sem]
  refine DCall_is hd2 ?_
  simp [go_sem]
  refine DCall_is ha ?_
  simp [go_sem, law10_TopoTurns.r]
end
end Go.Abs

