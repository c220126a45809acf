/- The statements on edges, boundaries and loops, by values. -/
import Derived.Test.YtlmjnmmppffhaaaGoTpE
import Derived.Test.YtlmjnmmppffhaaaGoLpC
import Derived.Test.YtlmjnmmppffhaaaGoLq
set_option linter.unusedVariables false
set_option linter.unusedSimpArgs false
namespace Go.Abs

def Mesh.heavy (m : Mesh) : Bool := decide (150 < m.verts.length) || decide (150 < m.tris.length)
def HeavyC (P : Program) (f : FuncId) : Prop := ∀ m : Mesh, CallIs P f [m.enc] (.b m.heavy)
def EqPC (P : Program) (f : FuncId) : Prop := ∀ l : List P2, l.length ≤ 1000000 → CallIs P f [psV l, psV l] (.b true)
def EqIC (P : Program) (f : FuncId) : Prop := ∀ l : List Int, l.length ≤ 1000000 → CallIs P f [isV l, isV l] (.b true)
def EqLC (P : Program) (f : FuncId) : Prop := ∀ ls : List (List Int), ls.length ≤ 1000000 → (∀ l ∈ ls, l.length ≤ 1000000) → CallIs P f [lsV ls, lsV ls] (.b true)
theorem edgesL_len {m : Mesh} : m.edgesL.length ≤ 12288 := by
  by_cases hz : m.check = 0
  · have hn : m.edgesL.Nodup := by
      unfold Mesh.edgesL; rw [if_pos hz]
      exact (ascOf_asc _).imp fun h1 h2 => by subst h2; exact P2.lt_irrefl _ h1
    have h1 := nodupP_len (k := (alluses m.tris).map P2.und) hn (fun a ha => by unfold Mesh.edgesL at ha; rw [if_pos hz] at ha; exact mem_ascOf.1 ha)
    have hE := alluses_len m.tris m.tris.length
    rw [List.take_length] at hE
    rw [List.length_map] at h1
    have := (Mesh.check_zero.1 hz).2.1
    omega
  · simp [Mesh.edgesL, hz]
theorem sumT_succ {ls : List (List Int)} {k : Nat} {w : List Int} (h : ls[k]? = some w) : ((ls.take (k + 1)).map List.length).sum = ((ls.take k).map List.length).sum + w.length := by
  rw [take_succ_get h, List.map_append, List.sum_append]; simp

theorem nodup_lenI : ∀ {l k : List Int}, l.Nodup → (∀ a ∈ l, a ∈ k) → l.length ≤ k.length
  | [], k, _, _ => by simp
  | x :: l, k, hn, hs => by
    have hc := List.nodup_cons.1 hn
    have hx := hs x (by simp)
    have := nodup_lenI (l := l) (k := k.erase x) hc.2 (fun a ha => by
      have hne : a ≠ x := by rintro rfl; exact hc.1 ha
      exact (List.mem_erase_of_ne hne).2 (hs a (by simp [ha])))
    rw [List.length_erase_of_mem hx] at this
    have := List.length_pos_of_mem hx
    simp only [List.length_cons]; omega
theorem sum_geT : ∀ (ls : List (List Int)) (w : List Int), w ∈ ls → w.length ≤ (ls.map List.length).sum
  | [], w, hw => by simp at hw
  | a :: l, w, hw => by
    rw [List.map_cons, List.sum_cons]
    rcases List.mem_cons.1 hw with rfl | hw
    · omega
    · have := sum_geT l w hw; omega
theorem sum_lenT : ∀ (ls : List (List Int)), (∀ w ∈ ls, 0 < w.length) → ls.length ≤ (ls.map List.length).sum
  | [], _ => by simp
  | a :: l, h => by
    rw [List.map_cons, List.sum_cons, List.length_cons]
    have := sum_lenT l (fun w hw => h w (by simp [hw]))
    have := h a (by simp)
    omega
theorem sum_takeT (ls : List (List Int)) (k : Nat) : ((ls.take k).map List.length).sum ≤ (ls.map List.length).sum := by
  have h := List.take_append_drop k ls
  have h2 := congrArg (fun l => (List.map List.length l).sum) h
  simp only [List.map_append, List.sum_append] at h2
  omega

section
variable {P : Program} (hm : P.follows .mixedOrders = true)
include hm

theorem law10_heavy_ok {f : FuncId} (hf : FnOk P f law10_heavy.c law10_heavy.r law10_heavy.n) : HeavyC P f := by
  intro m
  refine PureC.is (pure_of hm hf (Nat.le_of_ble_eq_true rfl) ?_) rfl
  unfold law10_heavy.c
  by_cases h1 : 150 < m.verts.length
  · simp [go_sem, Mesh.enc, Mesh.cs, vsV, tsV, h1, show (150 : Int) < m.verts.length by omega, law10_heavy.r, Mesh.heavy]
  · by_cases h2 : 150 < m.tris.length
    · simp [go_sem, Mesh.enc, Mesh.cs, vsV, tsV, h1, h2, show ¬ (150 : Int) < m.verts.length by omega, show (150 : Int) < m.tris.length by omega, law10_heavy.r, Mesh.heavy]
    · simp [go_sem, Mesh.enc, Mesh.cs, vsV, tsV, h1, h2, show ¬ (150 : Int) < m.verts.length by omega, show ¬ (150 : Int) < m.tris.length by omega, law10_heavy.r, Mesh.heavy]

theorem law10_edges_ok {f : FuncId} (hf : FnOk P f law10_edges.c law10_edges.r law10_edges.n) : EqPC P f := by
  intro l hl
  refine PureC.is (pure_of hm hf (Nat.le_of_ble_eq_true rfl) ?_) rfl
  unfold law10_edges.c
  simp [go_sem, psV]
  refine AS_loop (α := Nat) (fun k => k ≤ l.length) (fun k => ⟨[(0, psV l), (1, psV l), (11, psV l), (12, .i .i64 l.length), (13, .i .i64 k)], []⟩) (fun k => l.length - k) 0 (Nat.zero_le _) ?_ ?_
  · simp [go_sem, psV]
  · intro k hk
    by_cases hkl : k = l.length
    · subst hkl
      simp [go_sem, psV, law10_edges.r]
    · have hlt : k < l.length := by omega
      have hp : l[k]? = some l[k] := List.getElem?_eq_getElem hlt
      generalize l[k] = e at hp
      obtain ⟨_, hp'⟩ := List.getElem?_eq_some_iff.1 hp
      simp (disch := omega) [go_sem, psV, hlt, hp, hp', pcs, wrap64_small]
      exact ⟨k + 1, by omega, by omega, by simp⟩
theorem law10_same_ok {f : FuncId} (hf : FnOk P f law10_same.c law10_same.r law10_same.n) : EqIC P f := by
  intro l hl
  refine PureC.is (pure_of hm hf (Nat.le_of_ble_eq_true rfl) ?_) rfl
  unfold law10_same.c
  simp [go_sem, isV]
  refine AS_loop (α := Nat) (fun k => k ≤ l.length) (fun k => ⟨[(0, isV l), (1, isV l), (11, isV l), (12, .i .i64 l.length), (13, .i .i64 k)], []⟩) (fun k => l.length - k) 0 (Nat.zero_le _) ?_ ?_
  · simp [go_sem, isV]
  · intro k hk
    by_cases hkl : k = l.length
    · subst hkl
      simp [go_sem, isV, law10_same.r]
    · have hlt : k < l.length := by omega
      have hp : l[k]? = some l[k] := List.getElem?_eq_getElem hlt
      generalize l[k] = e at hp
      obtain ⟨_, hp'⟩ := List.getElem?_eq_some_iff.1 hp
      simp (disch := omega) [go_sem, isV, hlt, hp, hp', wrap64_small]
      exact ⟨k + 1, by omega, by omega, by simp⟩
theorem law10_lists_ok {f fs : FuncId} (hf : FnOk P f (law10_lists.c fs) law10_lists.r law10_lists.n) (hs : EqIC P fs) : EqLC P f := by
  intro ls hl hea
  refine PureC.is (pure_of hm hf (Nat.le_of_ble_eq_true rfl) ?_) rfl
  unfold law10_lists.c
  simp [go_sem, lsV]
  refine AS_loop (α := Nat) (fun k => k ≤ ls.length) (fun k => ⟨[(0, lsV ls), (1, lsV ls), (11, lsV ls), (12, .i .i64 ls.length), (13, .i .i64 k)], []⟩) (fun k => ls.length - k) 0 (Nat.zero_le _) ?_ ?_
  · simp [go_sem, lsV]
  · intro k hk
    by_cases hkl : k = ls.length
    · subst hkl
      simp [go_sem, lsV, law10_lists.r]
    · have hlt : k < ls.length := by omega
      have hp : ls[k]? = some ls[k] := List.getElem?_eq_getElem hlt
      have hw := hea _ (List.getElem_mem hlt)
      generalize ls[k] = w at hp hw
      obtain ⟨_, hp'⟩ := List.getElem?_eq_some_iff.1 hp
      simp (disch := omega) [go_sem, lsV, hlt, hp, hp', wrap64_small]
      refine DCall_is (hs w hw) ?_
      simp (disch := omega) [go_sem, lsV, wrap64_small]
      exact ⟨k + 1, by omega, by omega, by simp⟩

theorem TopoEdges_ok {f fh fa fu fv fe fg fq : FuncId} (hf : FnOk P f (law10_TopoEdges.c fh fa fu fv fe fg fq) law10_TopoEdges.r law10_TopoEdges.n) (hh : HeavyC P fh) (ha : AwakeC P fa) (hu : UsesC P fu) (hv : UsesC P fv) (he : EdgesLC P fe) (hg : EdgesLC P fg) (hq : EqPC P fq)
    (m : Mesh) (e : P2) : PureC P f [m.enc, e.enc] (· = .b true) := by
  refine pure_of hm hf (Nat.le_of_ble_eq_true rfl) ?_
  unfold law10_TopoEdges.c
  have hl := @edgesL_len m
  have hh1 := hh m
  have hu1 := hu m e
  have hv1 := hv m e
  have he1 := he m
  have hg1 := hg m
  have hq1 := hq m.edgesL (by omega)
  generalize m.edgesL = l at *
  generalize m.use e = x at *
  generalize m.use e.rev = y at *
  simp only [Mesh.enc, Mesh.cs, P2.enc, P2.cs] at hh1 hu1 hv1 he1 hg1
  simp [go_sem, Mesh.enc, Mesh.cs, P2.enc, P2.cs]
  refine ACall_is hh1 ?_
  cases m.heavy
  · simp [go_sem]
    refine ACall_is hu1 ?_
    simp [go_sem]
    refine ACall_is hv1 ?_
    simp [go_sem]
    refine DCall_is he1 ?_
    simp [go_sem]
    refine DCall_is hg1 ?_
    simp [go_sem]
    refine DCall_is hq1 ?_
    simp [go_sem]
    refine DCall_is ha ?_
    simp [go_sem, law10_TopoEdges.r]
  · simp [go_sem]
    refine ACall_is ha ?_
    simp [go_sem, law10_TopoEdges.r]

theorem TopoBounds_ok {f fh fa fb fc fq fd fe fu : FuncId} (hf : FnOk P f (law10_TopoBounds.c fh fa fb fc fq fd fe fu) law10_TopoBounds.r law10_TopoBounds.n) (hh : HeavyC P fh) (ha : AwakeC P fa) (hb : BoundaryC P fb) (hc : BoundaryC P fc) (hq : EqPC P fq) (hd : ClosedC P fd) (he : ClosedC P fe) (hu : UsesC P fu)
    (m : Mesh) : PureC P f [m.enc] (· = .b true) := by
  refine pure_of hm hf (Nat.le_of_ble_eq_true rfl) ?_
  unfold law10_TopoBounds.c
  have hl := border_len m
  have hh1 := hh m
  have hu1 := hu m
  have hb1 := hb m
  have hc1 := hc m
  have hd1 := hd m
  have he1 := he m
  have hq1 := hq m.border (by omega)
  have huse : ∀ e ∈ m.border, m.use e.rev < m.use e := fun e he => (mem_border.1 he).2.2
  generalize m.border = l at *
  generalize m.closed = cl at *
  simp only [Mesh.enc, Mesh.cs] at hh1 hu1 hb1 hc1 hd1 he1
  simp [go_sem, Mesh.enc, Mesh.cs]
  refine ACall_is hh1 ?_
  cases m.heavy
  · simp [go_sem]
    refine ACall_is hb1 ?_
    simp [go_sem]
    refine DCall_is hc1 ?_
    simp [go_sem]
    refine DCall_is hq1 ?_
    simp [go_sem]
    refine DCall_is hd1 ?_
    simp [go_sem]
    refine DCall_is he1 ?_
    simp [go_sem, psV]
    refine AS_loop (α := Nat) (fun k => k ≤ l.length) (fun k => ⟨[(1, .p 0 1 0 0), (25, psV l), (26, .i .i64 l.length), (27, .i .i64 k)], [.arr 1 2 [m.cs]]⟩) (fun k => l.length - k) 0 (Nat.zero_le _) ?_ ?_
    · simp [go_sem, psV, Mesh.cs, vsV, tsV]
    · intro k hk
      by_cases hkl : k = l.length
      · subst hkl
        simp [go_sem, psV]
        refine ACall_is ha ?_
        simp [go_sem, law10_TopoBounds.r]
      · have hlt : k < l.length := by omega
        have hp : l[k]? = some l[k] := List.getElem?_eq_getElem hlt
        have hus := huse _ (List.getElem_mem hlt)
        generalize l[k] = e at hp hus
        obtain ⟨_, hp'⟩ := List.getElem?_eq_some_iff.1 hp
        have hu2 := hu1 e
        generalize m.use e = x at *
        generalize m.use e.rev = y at *
        simp only [P2.enc, pcs] at hu2
        simp (disch := omega) [go_sem, psV, hlt, hp, hp', pcs, wrap64_small, Mesh.cs]
        refine ACall_is hu2 ?_
        simp (disch := omega) [go_sem, psV, wrap64_small, show ¬ x ≤ y by omega]
        exact ⟨k + 1, by omega, by omega, by simp [vsV, tsV, V.cl, V.cl1, V.cl0]⟩
  · simp [go_sem]
    refine ACall_is ha ?_
    simp [go_sem, law10_TopoBounds.r]

set_option maxHeartbeats 2000000 in
theorem TopoLoops_ok {f fh fa fl fm fq fu fb fc : FuncId} (hf : FnOk P f (law10_TopoLoops.c fh fa fl fm fq fu fb fc) law10_TopoLoops.r law10_TopoLoops.n) (hh : HeavyC P fh) (ha : AwakeC P fa) (hl : LoopsC P fl) (hl2 : LoopsC P fm) (hq : EqLC P fq) (hu : UsesC P fu) (hb : BoundaryC P fb) (hc : ClosedC P fc)
    (m : Mesh) : PureC P f [m.enc] (· = .b true) := by
  refine pure_of hm hf (Nat.le_of_ble_eq_true rfl) ?_
  unfold law10_TopoLoops.c
  have hh1 := hh m
  have hu1 := hu m
  have hl1 := hl m
  have hm1 := hl2 m
  have hb1 := hb m
  have hc1 := hc m
  simp only [Mesh.enc, Mesh.cs] at hh1 hu1 hl1 hm1 hb1 hc1
  simp [go_sem, Mesh.enc, Mesh.cs]
  refine ACall_is hh1 ?_
  cases m.heavy
  case true =>
    simp [go_sem]
    refine ACall_is ha ?_
    simp [go_sem, law10_TopoLoops.r]
  simp [go_sem]
  refine ACall_is hl1 ?_
  simp [go_sem]
  refine ACall_is hm1 ?_
  by_cases h0 : m.loops.2 = 0
  case neg =>
    have hls : m.loops.1 = [] := by
      unfold Mesh.loops at h0 ⊢
      by_cases hz : m.check = 0
      · rw [if_pos hz] at h0 ⊢
        by_cases hs : m.simple m.border = true
        · rw [if_pos hs] at h0; exact absurd rfl h0
        · rw [if_neg hs]
      · rw [if_neg hz]
    have hq1 := hq m.loops.1 (by rw [hls]; simp) (by rw [hls]; simp)
    have hb : (m.loops.2 != 0) = true := by simpa using h0
    simp [go_sem]
    refine ACall_is hq1 ?_
    simp [go_sem, hb, h0]
    refine ACall_is ha ?_
    simp [go_sem, law10_TopoLoops.r]
  obtain ⟨hz, hs, hls⟩ : m.check = 0 ∧ m.simple m.border = true ∧ m.loops.1 = loopsOf m.border := by
    unfold Mesh.loops at h0 ⊢
    by_cases hz : m.check = 0
    · rw [if_pos hz] at h0 ⊢
      by_cases hs : m.simple m.border = true
      · rw [if_pos hs]; exact ⟨hz, hs, rfl⟩
      · rw [if_neg hs] at h0; simp at h0
    · rw [if_neg hz] at h0; exact absurd h0 hz
  have hL := loops_are hz hs
  have hbl := border_len m
  have hsum : (m.loops.1.map List.length).sum = m.border.length := by
    have hx := simple_xnd hs (border_asc m)
    have hflat : m.loops.1.flatten.length = (m.border.map P2.x).length := by
      rw [hls]
      have h1 := nodup_lenI hL.nodup (fun v hv => (hL.mem v).1 hv)
      have h2 := nodup_lenI hx (fun v hv => (hL.mem v).2 hv)
      omega
    rw [← List.length_flatten, hflat, List.length_map]
  have hge : ∀ w ∈ m.loops.1, w.length ≤ 12288 ∧ w ≠ [] := fun w hw => ⟨by have := sum_geT m.loops.1 w hw; omega, by rw [hls] at hw; exact (hL.cyc w hw).1⟩
  have hnum : m.loops.1.length ≤ 12288 := by
    have := sum_lenT m.loops.1 (fun w hw => List.length_pos_iff.2 (hge w hw).2)
    omega
  have hedge : ∀ w ∈ m.loops.1, ∀ (i : Nat) (v u : Int), w[i]? = some v → w[(i + 1) % w.length]? = some u → m.use ⟨u, v⟩ = 1 ∧ m.use ⟨v, u⟩ = 0 := by
    intro w hw i v u hv hu
    rw [hls] at hw
    have h1 := (hL.cyc w hw).2 i v u hv hu
    have h2 := nxt_border hz hs ((hL.mem v).1 (List.mem_flatten.2 ⟨w, hw, List.mem_of_getElem? hv⟩))
    rw [h1] at h2
    exact simple_mem hs h2
  have hcl : m.closed = decide (m.border.length = 0) := by
    simp [Mesh.closed, hz]
  have hq1 := hq m.loops.1 (by omega) (fun w hw => by have := (hge w hw).1; omega)
  rw [hcl] at hc1
  rw [h0]
  clear hls hL hcl hs hl1 hm1
  generalize m.border = l at *
  generalize m.loops.1 = ls at *
  simp [go_sem]
  refine ACall_is hq1 ?_
  simp [go_sem, lsV]
  refine AS_loop (α := Nat) (fun k => k ≤ ls.length) (fun k => ⟨[(1, .p 0 1 0 0), (7, .i .i64 ((ls.take k).map List.length).sum), (38, lsV ls), (39, .i .i64 ls.length), (40, .i .i64 k)], [.arr 1 2 [m.cs]]⟩) (fun k => ls.length - k) 0 (Nat.zero_le _) ?_ ?_
  · simp [go_sem, lsV, Mesh.cs, vsV, tsV]
  · intro k hk
    by_cases hkl : k = ls.length
    · subst hkl
      rw [List.take_length, hsum]
      simp [go_sem, lsV, Mesh.cs]
      refine ACall_is hb1 ?_
      simp [go_sem, psV]
      refine ACall_is hc1 ?_
      have hbb : (((l.length : Int) == 0) == decide (l = [])) = true := by cases l <;> simp; omega
      simp [go_sem, hbb]
      refine ACall_is ha ?_
      simp [go_sem, law10_TopoLoops.r]
    · have hlt : k < ls.length := by omega
      have hp : ls[k]? = some ls[k] := List.getElem?_eq_getElem hlt
      have hss := sumT_succ hp
      have hwm : ls[k] ∈ ls := List.getElem_mem hlt
      generalize ls[k] = w at hp hss hwm
      obtain ⟨_, hp'⟩ := List.getElem?_eq_some_iff.1 hp
      have hwl := hge w hwm
      have hle : ((ls.take (k + 1)).map List.length).sum ≤ 12288 := by
        have := sum_takeT ls (k + 1)
        omega
      have hne : 0 < w.length := List.length_pos_iff.2 hwl.2
      generalize ((ls.take k).map List.length).sum = N at *
      simp (disch := omega) [go_sem, lsV, hlt, hp, hp', isV]
      refine AS_loop (α := Nat) (fun j => j ≤ w.length) (fun j => ⟨[(1, .p 0 1 0 0), (7, .i .i64 (N + j : Nat)), (9, isV w), (38, lsV ls), (39, .i .i64 ls.length), (40, .i .i64 k), (44, isV w), (45, .i .i64 w.length), (46, .i .i64 j)], [.arr 1 2 [m.cs]]⟩) (fun j => w.length - j) 0 (Nat.zero_le _) ?_ ?_
      · simp [go_sem, lsV, isV, Mesh.cs, vsV, tsV]
      · intro j hj
        by_cases hjl : j = w.length
        · subst hjl
          simp (disch := omega) [go_sem, lsV, isV, Mesh.cs, wrap64_small]
          have hss2 : (List.take (k + 1) (List.map List.length ls)).sum = N + w.length := by rw [← List.map_take]; exact hss
          exact ⟨k + 1, by omega, by omega, by simp [hss2, vsV, tsV, V.cl, V.cl1, V.cl0]⟩
        · have hjt : j < w.length := by omega
          have hmod : (j + 1) % w.length < w.length := Nat.mod_lt _ hne
          have hv : w[j]? = some w[j] := List.getElem?_eq_getElem hjt
          have hu0 : w[(j + 1) % w.length]? = some w[(j + 1) % w.length] := List.getElem?_eq_getElem hmod
          have hus := hedge w hwm j _ _ hv hu0
          have htm : ((j : Int) + 1).tmod (w.length : Int) = (((j + 1) % w.length : Nat) : Int) := by
            rw [Int.tmod_eq_emod_of_nonneg (by omega), ← Int.natCast_succ, ← Int.natCast_emod]
          generalize hmd : (j + 1) % w.length = md at *
          generalize w[j] = v at hv hus
          generalize w[md] = u at hu0 hus
          obtain ⟨_, hv'⟩ := List.getElem?_eq_some_iff.1 hv
          obtain ⟨_, hu0'⟩ := List.getElem?_eq_some_iff.1 hu0
          have hu2 := hu1 ⟨u, v⟩
          have hrv : (⟨u, v⟩ : P2).rev = ⟨v, u⟩ := rfl
          rw [hrv, hus.1, hus.2] at hu2
          simp only [P2.enc, pcs] at hu2
          simp (disch := omega) [go_sem, lsV, isV, hjt, hv, hv', Mesh.cs, wrap64_small, htm, hu0, hu0', hmod, hwl.2]
          refine DCall_is hu2 ?_
          simp (disch := omega) [go_sem, lsV, isV, wrap64_small]
          exact ⟨j + 1, by omega, by omega, by simp [vsV, tsV, V.cl, V.cl1, V.cl0]; omega⟩
end
end Go.Abs

