/- Part of the library on which the proof stands: an abstract machine, its values and its soundness against the model; or what functions of the program do to such values. -/
import Derived.Test.YtoppidobgkgiiaaGoShpH
import Derived.Test.YtoppidobgkgiiaaGoRevC
import Derived.Test.YtoppidobgkgiiaaGoShpB
set_option linter.unusedVariables false
set_option linter.unusedSimpArgs false
namespace Go.Abs

def flankN (n i : Nat) : T3 := ⟨i, (nx n i : Nat), n⟩
theorem flank_eq {n i : Nat} (h : i < n) : flankT n i = flankN n i := by unfold flankT flankN; rw [nx_mod h]
def pyT (n : Nat) : List T3 := bottomTs (n - 2) ++ flankTs n n
theorem pyT_len {n : Nat} (h : 3 ≤ n) : (pyT n).length = 2 * n - 2 := by
  unfold pyT flankTs
  rw [List.length_append, bottomTs_len, List.length_map, List.length_range]; omega
theorem py_b {n k : Nat} (h : k < n - 2) : tAt (pyT n) k = bottomT k := by
  refine tAt_of ?_
  unfold pyT
  rw [List.getElem?_append_left (by rw [bottomTs_len]; exact h)]
  unfold bottomTs
  rw [List.getElem?_map, List.getElem?_range h]; rfl
theorem py_f {n i : Nat} (h : i < n) : tAt (pyT n) (n - 2 + i) = flankN n i := by
  refine tAt_of ?_
  unfold pyT
  rw [List.getElem?_append_right (by rw [bottomTs_len]; omega), bottomTs_len, show n - 2 + i - (n - 2) = i by omega]
  unfold flankTs
  rw [List.getElem?_map, List.getElem?_range h, ← flank_eq h]; rfl
theorem py_cases {n p : Nat} (h3 : 3 ≤ n) (h : p < (pyT n).length) : (∃ k, k < n - 2 ∧ k = p) ∨ (∃ i, i < n ∧ p = n - 2 + i) := by
  rw [pyT_len h3] at h
  by_cases h1 : p < n - 2
  · exact .inl ⟨p, h1, rfl⟩
  · exact .inr ⟨p - (n - 2), by omega, by omega⟩
theorem flat_f {n i : Nat} (h3 : 3 ≤ n) (h : i < n) : (flankN n i).a ≠ (flankN n i).b ∧ (flankN n i).b ≠ (flankN n i).c ∧ (flankN n i).c ≠ (flankN n i).a := by
  have := nx_ne h3 h
  unfold flankN; simp only; omega
def ownQ (n : Nat) (e : P2) : Nat :=
  if e.x < n ∧ e.y < n then
    (if e.x = 0 ∧ 2 ≤ e.y then (e.y - 2).toNat
    else if e.y = 0 ∧ 1 ≤ e.x ∧ e.x + 2 ≤ n then (e.x - 1).toNat
    else if e.x = e.y + 1 then (e.x - 2).toNat
    else n - 2 + e.x.toNat)
  else if e.x < n then n - 2 + (if e.x = 0 then n - 1 else (e.x - 1).toNat)
  else n - 2 + e.y.toNat
theorem ownq_b {n k : Nat} (hk : k < n - 2) : ownQ n ⟨0, (k : Int) + 2⟩ = k ∧ ownQ n ⟨(k : Int) + 2, (k : Int) + 1⟩ = k ∧ ownQ n ⟨(k : Int) + 1, 0⟩ = k := by
  refine ⟨?_, ?_, ?_⟩ <;> unfold ownQ <;> dsimp only
  · rw [if_pos (by omega), if_pos (by omega)]; omega
  · rw [if_pos (by omega), if_neg (by omega), if_neg (by omega), if_pos (by omega)]; omega
  · rw [if_pos (by omega), if_neg (by omega), if_pos (by omega)]; omega
theorem ownq_f {n i : Nat} (h3 : 3 ≤ n) (hi : i < n) : ownQ n ⟨i, (nx n i : Nat)⟩ = n - 2 + i ∧ ownQ n ⟨(nx n i : Nat), n⟩ = n - 2 + i ∧ ownQ n ⟨n, i⟩ = n - 2 + i := by
  by_cases hh : i + 1 = n
  · have hx : nx n i = 0 := by unfold nx; rw [if_pos hh]
    rw [hx]
    refine ⟨?_, ?_, ?_⟩ <;> unfold ownQ <;> dsimp only
    · rw [if_pos (by omega), if_neg (by omega), if_neg (by omega), if_neg (by omega)]; omega
    · rw [if_neg (by omega), if_pos (by omega), if_pos (by omega)]; omega
    · rw [if_neg (by omega), if_neg (by omega)]; omega
  · have hx : nx n i = i + 1 := by unfold nx; rw [if_neg hh]
    rw [hx]
    refine ⟨?_, ?_, ?_⟩ <;> unfold ownQ <;> dsimp only
    · rw [if_pos (by omega), if_neg (by omega), if_neg (by omega), if_neg (by omega)]; omega
    · rw [if_neg (by omega), if_pos (by omega), if_neg (by omega)]; omega
    · rw [if_neg (by omega), if_neg (by omega)]; omega
theorem py_own {n : Nat} (h3 : 3 ≤ n) : ∀ p, p < (pyT n).length → ∀ e ∈ edgesOf (tAt (pyT n) p), ownQ n e = p := by
  intro p hp e he
  rcases py_cases h3 hp with ⟨k, hk, rfl⟩ | ⟨i, hi, rfl⟩
  · rw [py_b hk, mem_edges3 (flat_b k)] at he
    obtain ⟨h1, h2, h4⟩ := ownq_b hk
    rcases he with rfl | rfl | rfl
    · exact h1
    · exact h2
    · exact h4
  · rw [py_f hi, mem_edges3 (flat_f h3 hi)] at he
    obtain ⟨h1, h2, h4⟩ := ownq_f h3 hi
    rcases he with rfl | rfl | rfl
    · exact h1
    · exact h2
    · exact h4
section
variable {n : Nat} (h3 : 3 ≤ n)
include h3
theorem hasq_b {k : Nat} (hk : k < n - 2) : Has (pyT n) ⟨0, (k : Int) + 2⟩ ∧ Has (pyT n) ⟨(k : Int) + 2, (k : Int) + 1⟩ ∧ Has (pyT n) ⟨(k : Int) + 1, 0⟩ := by
  have hl : k < (pyT n).length := by rw [pyT_len h3]; omega
  have hm := fun e => mem_edges3 (flat_b k) (e := e)
  rw [← py_b hk] at hm
  exact ⟨⟨k, hl, (hm _).2 (.inl (by rw [py_b hk]; rfl))⟩, ⟨k, hl, (hm _).2 (.inr (.inl (by rw [py_b hk]; rfl)))⟩, ⟨k, hl, (hm _).2 (.inr (.inr (by rw [py_b hk]; rfl)))⟩⟩
theorem hasq_f {i : Nat} (hi : i < n) : Has (pyT n) ⟨i, (nx n i : Nat)⟩ ∧ Has (pyT n) ⟨(nx n i : Nat), n⟩ ∧ Has (pyT n) ⟨n, i⟩ := by
  have hl : n - 2 + i < (pyT n).length := by rw [pyT_len h3]; omega
  have hm := fun e => mem_edges3 (flat_f h3 hi) (e := e)
  rw [← py_f hi] at hm
  exact ⟨⟨_, hl, (hm _).2 (.inl (by rw [py_f hi]; rfl))⟩, ⟨_, hl, (hm _).2 (.inr (.inl (by rw [py_f hi]; rfl)))⟩, ⟨_, hl, (hm _).2 (.inr (.inr (by rw [py_f hi]; rfl)))⟩⟩
theorem py_clo : ∀ p, p < (pyT n).length → ∀ e ∈ edgesOf (tAt (pyT n) p), Has (pyT n) e.rev := by
  intro p hp e he
  rcases py_cases h3 hp with ⟨k, hk, rfl⟩ | ⟨i, hi, rfl⟩
  · rw [py_b hk, mem_edges3 (flat_b k)] at he
    rcases he with rfl | rfl | rfl
    · by_cases hh : k + 3 = n
      · exact has_eq (hasq_f h3 (i := n - 1) (by omega)).1 (by simp only [bottomT, P2.rev]; omega) (by simp only [bottomT, P2.rev, nx]; split <;> omega)
      · exact has_eq (hasq_b h3 (k := k + 1) (by omega)).2.2 (by simp only [bottomT, P2.rev]; omega) rfl
    · exact has_eq (hasq_f h3 (i := k + 1) (by omega)).1 (by simp only [bottomT, P2.rev]; omega) (by simp only [bottomT, P2.rev, nx]; split <;> omega)
    · by_cases hh : k = 0
      · exact has_eq (hasq_f h3 (i := 0) (by omega)).1 rfl (by simp only [bottomT, P2.rev, nx]; split <;> omega)
      · exact has_eq (hasq_b h3 (k := k - 1) (by omega)).1 rfl (by simp only [bottomT, P2.rev]; omega)
  · rw [py_f hi, mem_edges3 (flat_f h3 hi)] at he
    rcases he with rfl | rfl | rfl
    · by_cases hh : i + 1 = n
      · exact has_eq (hasq_b h3 (k := n - 3) (by omega)).1 (by simp only [flankN, P2.rev, nx]; split <;> omega) (by simp only [flankN, P2.rev]; omega)
      · by_cases h0 : i = 0
        · exact has_eq (hasq_b h3 (k := 0) (by omega)).2.2 (by simp only [flankN, P2.rev, nx]; split <;> omega) (by simp only [flankN, P2.rev]; omega)
        · exact has_eq (hasq_b h3 (k := i - 1) (by omega)).2.1 (by simp only [flankN, P2.rev, nx]; split <;> omega) (by simp only [flankN, P2.rev]; omega)
    · exact has_eq (hasq_f h3 (nx_ne h3 hi).2).2.2 rfl rfl
    · by_cases h0 : i = 0
      · exact has_eq (hasq_f h3 (i := n - 1) (by omega)).2.1 (by simp only [flankN, P2.rev, nx]; split <;> omega) rfl
      · exact has_eq (hasq_f h3 (i := i - 1) (by omega)).2.1 (by simp only [flankN, P2.rev, nx]; split <;> omega) rfl
theorem adjq_f {i : Nat} (hi : i < n) : adjI (pyT n) (n - 2 + i) (n - 2 + nx n i) := by
  have hl := pyT_len h3
  have hx := (nx_ne h3 hi).2
  refine adj_rev3 (by omega) (by omega) (e := ⟨(nx n i : Nat), n⟩) ?_ ?_
  · rw [py_f hi, mem_edges3 (flat_f h3 hi)]; exact .inr (.inl rfl)
  · rw [py_f hx, mem_edges3 (flat_f h3 hx)]; exact .inr (.inr rfl)
theorem adjq_b {k : Nat} (hk : k < n - 2) : adjI (pyT n) k (n - 2 + (k + 1)) := by
  have hl := pyT_len h3
  refine adj_rev3 (by omega) (by omega) (e := ⟨(k : Int) + 2, (k : Int) + 1⟩) ?_ ?_
  · rw [py_b hk, mem_edges3 (flat_b k)]; exact .inr (.inl rfl)
  · rw [py_f (by omega), mem_edges3 (flat_f h3 (by omega))]
    refine .inl (p2_ext ?_ ?_)
    · simp only [flankN, P2.rev]; omega
    · simp only [flankN, P2.rev, nx]; split <;> omega
theorem connq_f : ∀ i, i < n → Conn (pyT n) (n - 2) (n - 2 + i)
  | 0, _ => .refl (by rw [pyT_len h3]; omega)
  | i + 1, hi => by
    have h1 := connq_f i (by omega)
    have h2 := adjq_f h3 (i := i) (by omega)
    have hx : nx n i = i + 1 := by unfold nx; split <;> omega
    rw [hx] at h2
    exact h1.tail h2
theorem py_one : ∀ p, p < (pyT n).length → Conn (pyT n) 0 p := by
  have h0 : Conn (pyT n) 0 (n - 2) := by
    have h1 : Conn (pyT n) 0 (n - 2 + (0 + 1)) := .tail (.refl (by rw [pyT_len h3]; omega)) (adjq_b h3 (k := 0) (by omega))
    exact h1.trans (connq_f h3 1 (by omega)).symm
  intro p hp
  rcases py_cases h3 hp with ⟨k, hk, rfl⟩ | ⟨i, hi, rfl⟩
  · exact (h0.trans (connq_f h3 (k + 1) (by omega))).tail (adjq_b h3 hk).symm
  · exact h0.trans (connq_f h3 i hi)
theorem py_each {Q : T3 → Prop} (hb : ∀ k, k < n - 2 → Q (bottomT k)) (hf : ∀ i, i < n → Q (flankN n i)) : ∀ t ∈ pyT n, Q t := by
  intro t ht0
  obtain ⟨p, hp⟩ := List.getElem?_of_mem ht0
  have hl := (List.getElem?_eq_some_iff.1 hp).1
  rw [← tAt_of hp]
  rcases py_cases h3 hl with ⟨k, hk, rfl⟩ | ⟨i, hi, rfl⟩
  · rw [py_b hk]; exact hb k hk
  · rw [py_f hi]; exact hf i hi
theorem py_sphere : Sphere (pyT n) (n + 1) where
  pos := by rw [pyT_len h3]; omega
  own := ⟨ownQ n, py_own h3⟩
  clo := py_clo h3
  one := py_one h3
  ok := by
    simp only [tsOk, List.all_eq_true]
    refine py_each h3 (fun k hk => ?_) (fun i hi => ?_)
    · rw [T3.ok_iff]; simp only [bottomT]; omega
    · have := nx_ne h3 hi; rw [T3.ok_iff]; simp only [flankN]; omega
  flat := py_each h3 (fun k _ => flat_b k) (fun i hi => flat_f h3 hi)
  used := fun v hv => by
    have hl := pyT_len h3
    have hmem : ∀ p, p < (pyT n).length → tAt (pyT n) p ∈ pyT n := fun p hp => List.mem_of_getElem? (tAt_get hp)
    by_cases h : v < n
    · refine ⟨_, hmem (n - 2 + v) (by omega), ?_⟩
      rw [py_f h]; exact .inl rfl
    · refine ⟨_, hmem (n - 2 + 0) (by omega), ?_⟩
      rw [py_f (by omega)]
      refine .inr (.inr ?_)
      simp only [flankN]; omega
  num := by rw [pyT_len h3]; omega
end

/- Boxes. -/
def boxOwn (e : P2) : Nat := ((List.range 12).find? fun p => decide (e ∈ edgesOf (tAt boxTris p))).getD 0
theorem box_adj {i j : Nat} (h : ((decide (i < 12) && decide (j < 12)) && (edgesOf (tAt boxTris i)).any fun a => (edgesOf (tAt boxTris j)).any fun b => decide (a.und = b.und)) = true) : adjI boxTris i j := by
  simp only [Bool.and_eq_true, decide_eq_true_eq, List.any_eq_true] at h
  obtain ⟨⟨h1, h2⟩, a, ha, b, hb, hab⟩ := h
  exact adjI_of' h1 h2 ha hb hab
theorem box_sphere : Sphere boxTris 8 where
  pos := by decide
  own := ⟨boxOwn, by decide⟩
  clo := by decide
  one := by
    have c0 : Conn boxTris 0 0 := .refl (by decide)
    have c1 : Conn boxTris 0 1 := c0.tail (box_adj (by decide))
    have c4 : Conn boxTris 0 4 := c1.tail (box_adj (by decide))
    have c5 : Conn boxTris 0 5 := c4.tail (box_adj (by decide))
    have c2 : Conn boxTris 0 2 := c5.tail (box_adj (by decide))
    have c3 : Conn boxTris 0 3 := c2.tail (box_adj (by decide))
    have c6 : Conn boxTris 0 6 := c3.tail (box_adj (by decide))
    have c7 : Conn boxTris 0 7 := c6.tail (box_adj (by decide))
    have c8 : Conn boxTris 0 8 := c5.tail (box_adj (by decide))
    have c9 : Conn boxTris 0 9 := c8.tail (box_adj (by decide))
    have c10 : Conn boxTris 0 10 := c7.tail (box_adj (by decide))
    have c11 : Conn boxTris 0 11 := c10.tail (box_adj (by decide))
    intro i hi
    have hi : i < 12 := hi
    match i, hi with
    | 0, _ => exact c0
    | 1, _ => exact c1
    | 2, _ => exact c2
    | 3, _ => exact c3
    | 4, _ => exact c4
    | 5, _ => exact c5
    | 6, _ => exact c6
    | 7, _ => exact c7
    | 8, _ => exact c8
    | 9, _ => exact c9
    | 10, _ => exact c10
    | 11, _ => exact c11
  ok := by decide
  flat := by decide
  used := by decide
  num := by decide
end Go.Abs
set_option linter.unusedVariables false
set_option linter.unusedSimpArgs false
namespace Go.Abs

set_option maxRecDepth 20000 in
set_option maxHeartbeats 4000000 in
theorem vol_box (p s : V3) : volL (boxVerts p s) boxTris = 6 * s.x * s.y * s.z := by
  have h : ∀ i : Nat, i < 8 → vAt (boxVerts p s) (i : Int) = (boxVerts p s).getD i ⟨0, 0, 0⟩ := fun i _ => by
    unfold vAt; rw [Int.toNat_natCast, List.getD_eq_getElem?_getD]
  have h0 : vAt (boxVerts p s) 0 = ⟨p.x, p.y, p.z⟩ := h 0 (by omega)
  have h1 : vAt (boxVerts p s) 1 = ⟨p.x + s.x, p.y, p.z⟩ := h 1 (by omega)
  have h2 : vAt (boxVerts p s) 2 = ⟨p.x, p.y + s.y, p.z⟩ := h 2 (by omega)
  have h3 : vAt (boxVerts p s) 3 = ⟨p.x + s.x, p.y + s.y, p.z⟩ := h 3 (by omega)
  have h4 : vAt (boxVerts p s) 4 = ⟨p.x, p.y, p.z + s.z⟩ := h 4 (by omega)
  have h5 : vAt (boxVerts p s) 5 = ⟨p.x + s.x, p.y, p.z + s.z⟩ := h 5 (by omega)
  have h6 : vAt (boxVerts p s) 6 = ⟨p.x, p.y + s.y, p.z + s.z⟩ := h 6 (by omega)
  have h7 : vAt (boxVerts p s) 7 = ⟨p.x + s.x, p.y + s.y, p.z + s.z⟩ := h 7 (by omega)
  simp only [volL, boxTris, List.map_cons, List.map_nil, List.sum_cons, List.sum_nil, volT, h0, h1, h2, h3, h4, h5, h6, h7, det3, dot3, crs]
  grind

def cr (p q : P2) : Int := p.x * q.y - p.y * q.x
def pt (l : List P2) (i : Nat) : P2 := l.getD i ⟨0, 0⟩
/-- Twice the area under the first edges. -/
def arK (l : List P2) (m : Nat) : Int := ((List.range m).map fun i => cr (pt l i) (pt l (nx l.length i))).sum
theorem arK_succ (l : List P2) (m : Nat) : arK l (m + 1) = arK l m + cr (pt l m) (pt l (nx l.length m)) := by
  unfold arK
  rw [List.range_succ, List.map_append, List.sum_append]; simp
theorem nx_lt {n i : Nat} (h : i + 1 < n) : nx n i = i + 1 := by unfold nx; rw [if_neg (by omega)]
theorem nx_last {n : Nat} (h : 0 < n) : nx n (n - 1) = 0 := by unfold nx; rw [if_pos (by omega)]
theorem cr_swap (p q : P2) : cr q p = - cr p q := by unfold cr; grind
def lev (p : P2) (z : Int) : V3 := ⟨p.x, p.y, z⟩
theorem det_lev (a b c : P2) (z : Int) : det3 (lev a z) (lev b z) (lev c z) = z * (cr a b + cr b c + cr c a) := by
  unfold det3 dot3 crs lev cr; grind
theorem det_side (p q : P2) (z h : Int) : det3 (lev p z) (lev q z) (lev q (z + h)) + det3 (lev p z) (lev q (z + h)) (lev p (z + h)) = 2 * h * cr p q := by
  unfold det3 dot3 crs lev cr; grind
theorem det_flank (p q : P2) (z : Int) (a : V3) : det3 (lev p z) (lev q z) a = a.z * cr p q + z * (a.x * (p.y - q.y) + a.y * (q.x - p.x)) := by
  unfold det3 dot3 crs lev cr; grind
theorem lev_at {l : List P2} {z : Int} {i : Nat} (h : i < l.length) : (levelVs l z)[i]? = some (lev (pt l i) z) := by
  unfold levelVs pt
  rw [List.getElem?_map, List.getElem?_eq_getElem h, List.getD_eq_getElem?_getD, List.getElem?_eq_getElem h]; rfl
theorem vAt_lo {l : List P2} {z : Int} {r : List V3} {i : Nat} (h : i < l.length) : vAt (levelVs l z ++ r) (i : Int) = lev (pt l i) z := by
  unfold vAt
  rw [Int.toNat_natCast, List.getElem?_append_left (by rw [levelVs_len]; exact h), lev_at h]; rfl
theorem vAt_hi {l : List P2} {z z' : Int} {i : Nat} (h : i < l.length) : vAt (levelVs l z ++ levelVs l z') ((l.length : Int) + i) = lev (pt l i) z' := by
  unfold vAt
  rw [show ((l.length : Int) + i).toNat = l.length + i by omega, List.getElem?_append_right (by rw [levelVs_len]; omega), levelVs_len, show l.length + i - l.length = i by omega, lev_at h]; rfl
theorem bottomTs_succ (m : Nat) : bottomTs (m + 1) = bottomTs m ++ [bottomT m] := by unfold bottomTs; rw [List.range_succ, List.map_append]; rfl
theorem volL_one (vs : List V3) (t : T3) : volL vs [t] = volT vs t := by rw [volL_cons, volL_nil]; omega
theorem vol_bottom {l : List P2} {z : Int} {r : List V3} : ∀ m, m + 2 ≤ l.length → volL (levelVs l z ++ r) (bottomTs m) = - (z * (arK l (m + 1) + cr (pt l (m + 1)) (pt l 0)))
  | 0, h => by
    rw [show bottomTs 0 = [] from rfl, volL_nil, arK_succ, nx_lt (by omega)]
    rw [show arK l 0 = 0 from rfl, cr_swap]; simp only [Int.zero_add]; rw [Int.add_left_neg]; simp
  | m + 1, h => by
    rw [bottomTs_succ, volL_app, vol_bottom m (by omega), volL_one]
    have h0 : vAt (levelVs l z ++ r) 0 = lev (pt l 0) z := vAt_lo (i := 0) (by omega)
    have h1 : vAt (levelVs l z ++ r) ((m : Int) + 1) = lev (pt l (m + 1)) z := vAt_lo (i := m + 1) (by omega)
    have h2 : vAt (levelVs l z ++ r) ((m : Int) + 2) = lev (pt l (m + 2)) z := vAt_lo (i := m + 2) (by omega)
    unfold volT bottomT
    simp only
    rw [h0, h1, h2, det_lev, arK_succ l (m + 1), nx_lt (by omega)]
    have e1 := cr_swap (pt l (m + 1)) (pt l (m + 1 + 1))
    have e2 := cr_swap (pt l 0) (pt l (m + 1 + 1))
    have e3 := cr_swap (pt l 0) (pt l (m + 1))
    rw [show m + 2 = m + 1 + 1 from rfl, e1, e2, e3]
    grind
theorem vol_top {l : List P2} {z z' : Int} : ∀ m, m + 2 ≤ l.length → volL (levelVs l z ++ levelVs l z') (topTs l.length m) = z' * (arK l (m + 1) + cr (pt l (m + 1)) (pt l 0))
  | 0, h => by
    rw [show topTs l.length 0 = [] from rfl, volL_nil, arK_succ, nx_lt (by omega)]
    rw [show arK l 0 = 0 from rfl, cr_swap]; simp only [Int.zero_add]; rw [Int.add_left_neg]; simp
  | m + 1, h => by
    rw [topTs_succ, volL_app, vol_top m (by omega), volL_one]
    have h0 : vAt (levelVs l z ++ levelVs l z') (l.length : Int) = lev (pt l 0) z' := by
      have := vAt_hi (l := l) (z := z) (z' := z') (i := 0) (by omega)
      rwa [show (l.length : Int) + (0 : Nat) = l.length by omega] at this
    have h1 : vAt (levelVs l z ++ levelVs l z') ((l.length : Int) + (m + 1)) = lev (pt l (m + 1)) z' := vAt_hi (i := m + 1) (by omega)
    have h2 : vAt (levelVs l z ++ levelVs l z') ((l.length : Int) + (m + 1) + 1) = lev (pt l (m + 2)) z' := by
      rw [show (l.length : Int) + (m + 1) + 1 = (l.length : Int) + ((m + 2 : Nat) : Int) by omega]
      exact vAt_hi (i := m + 2) (by omega)
    unfold volT topT
    simp only
    rw [h0, h1, h2, det_lev, arK_succ l (m + 1), nx_lt (by omega)]
    have e2 := cr_swap (pt l 0) (pt l (m + 1 + 1))
    have e3 := cr_swap (pt l 0) (pt l (m + 1))
    rw [show m + 2 = m + 1 + 1 from rfl, e2, e3]
    grind
theorem vol_sides {l : List P2} {z h : Int} (h3 : 3 ≤ l.length) : ∀ m, m ≤ l.length → volL (levelVs l z ++ levelVs l (z + h)) (sideTs l.length m) = 2 * h * arK l m
  | 0, _ => by rw [show sideTs l.length 0 = [] from rfl, volL_nil, show arK l 0 = 0 from rfl]; simp
  | m + 1, hm => by
    rw [sideTs_succ, volL_app, vol_sides h3 m (by omega), side_two (by omega), volL_cons, volL_one, arK_succ]
    have hx := nx_ne h3 (show m < l.length by omega)
    have a0 : vAt (levelVs l z ++ levelVs l (z + h)) (m : Int) = lev (pt l m) z := vAt_lo (by omega)
    have a1 : vAt (levelVs l z ++ levelVs l (z + h)) ((nx l.length m : Nat) : Int) = lev (pt l (nx l.length m)) z := vAt_lo hx.2
    have a2 : vAt (levelVs l z ++ levelVs l (z + h)) ((l.length : Int) + (nx l.length m : Nat)) = lev (pt l (nx l.length m)) (z + h) := vAt_hi hx.2
    have a3 : vAt (levelVs l z ++ levelVs l (z + h)) ((l.length : Int) + (m : Nat)) = lev (pt l m) (z + h) := vAt_hi (by omega)
    unfold volT sideA sideB
    simp only
    rw [a0, a1, a2, a3]
    have := det_side (pt l m) (pt l (nx l.length m)) z h
    grind
theorem ar_all {l : List P2} (h3 : 3 ≤ l.length) : arK l (l.length - 2 + 1) + cr (pt l (l.length - 2 + 1)) (pt l 0) = arK l l.length := by
  obtain ⟨k, hk⟩ : ∃ k, l.length = k + 2 := ⟨l.length - 2, by omega⟩
  have h1 := arK_succ l (k + 1)
  have h2 : nx l.length (k + 1) = 0 := by rw [hk]; exact nx_last (n := k + 2) (by omega)
  rw [h2] at h1
  rw [show l.length - 2 + 1 = k + 1 by omega, ← h1]
  congr 1; omega
theorem vol_prism {l : List P2} {z h : Int} (h3 : 3 ≤ l.length) : volL (prismMesh l z h).verts (prismMesh l z h).tris = 3 * arK l l.length * h := by
  unfold prismMesh
  simp only
  rw [volL_app, volL_app, vol_bottom _ (by omega), vol_top _ (by omega), vol_sides h3 _ (Nat.le_refl _), ar_all h3]
  grind
theorem vol_flanks {l : List P2} {z : Int} {a : V3} (h3 : 3 ≤ l.length) : ∀ m, m ≤ l.length → volL (levelVs l z ++ [a]) (flankTs l.length m) = a.z * arK l m + z * (a.x * ((pt l 0).y - (pt l (if m = l.length then 0 else m)).y) + a.y * ((pt l (if m = l.length then 0 else m)).x - (pt l 0).x))
  | 0, _ => by
    rw [show flankTs l.length 0 = [] from rfl, volL_nil, show arK l 0 = 0 from rfl, if_neg (by omega)]
    grind
  | m + 1, hm => by
    rw [flankTs_succ, volL_app, vol_flanks h3 m (by omega), volL_one, flank_eq (by omega), arK_succ, if_neg (show ¬ m = l.length by omega)]
    have hx := nx_ne h3 (show m < l.length by omega)
    have a0 : vAt (levelVs l z ++ [a]) (m : Int) = lev (pt l m) z := vAt_lo (by omega)
    have a1 : vAt (levelVs l z ++ [a]) ((nx l.length m : Nat) : Int) = lev (pt l (nx l.length m)) z := vAt_lo hx.2
    have a2 : vAt (levelVs l z ++ [a]) (l.length : Int) = a := by
      unfold vAt
      rw [Int.toNat_natCast, List.getElem?_append_right (by rw [levelVs_len]; omega), levelVs_len, Nat.sub_self]; rfl
    have hq : (if m + 1 = l.length then 0 else m + 1) = nx l.length m := rfl
    unfold volT flankN
    simp only
    rw [a0, a1, a2, det_flank, hq]
    grind
theorem vol_pyr {l : List P2} {z : Int} {a : V3} (h3 : 3 ≤ l.length) : volL (pyrMesh l z a).verts (pyrMesh l z a).tris = arK l l.length * (a.z - z) := by
  unfold pyrMesh
  simp only
  rw [volL_app, vol_bottom _ (by omega), vol_flanks h3 _ (Nat.le_refl _), ar_all h3, if_pos rfl]
  grind
/-- A convex base has an area. -/
theorem ar_pos {l : List P2} (h3 : 3 ≤ l.length) (hc : convexB l = true) : 0 < arK l l.length := by
  have hcv : ∀ k, k < l.length → ∀ i, i < l.length → convexAt l k i = true := by simpa [convexB] using hc
  have hcross : ∀ k, k + 2 < l.length → 0 < cross0 (pt l (k + 1)) (pt l (k + 2)) (pt l 0) := by
    intro k hk
    have h1 := hcv (k + 1) (by omega) 0 (by omega)
    unfold convexAt at h1
    rw [Nat.mod_eq_of_lt (show k + 1 + 1 < l.length by omega)] at h1
    simp only [Bool.or_eq_true, decide_eq_true_eq] at h1
    rcases h1 with (h1 | h1) | h1
    · omega
    · omega
    · have h2 : 0 < cross2 (pt l (k + 1)) (pt l (k + 2)) (pt l 0) := by
        unfold turn2 at h1
        split at h1
        · rename_i hh; exact hh
        · split at h1 <;> omega
      unfold cross2 at h2
      split at h2
      · exact h2
      · omega
  have hx : ∀ a b c : P2, cross0 a b c = cr a b + cr b c + cr c a := fun a b c => by unfold cross0 cr; grind
  have key : ∀ m, m + 3 ≤ l.length → 0 < arK l (m + 2) + cr (pt l (m + 2)) (pt l 0) := by
    intro m
    induction m with
    | zero =>
      intro hm
      have h1 := hcross 0 (by omega)
      rw [hx] at h1
      rw [arK_succ, arK_succ, nx_lt (by omega), nx_lt (by omega), show arK l 0 = 0 from rfl]
      have e := cr_swap (pt l 0) (pt l 1)
      simp only [Nat.zero_add, show (1 + 1 : Nat) = 2 from rfl] at h1 ⊢
      have h2 := cr_swap (pt l 1) (pt l 0)
      omega
    | succ m ih =>
      intro hm
      have h0 := ih (by omega)
      have h1 := hcross (m + 1) (by omega)
      rw [hx] at h1
      rw [arK_succ l (m + 2), nx_lt (by omega)]
      have e := cr_swap (pt l 0) (pt l (m + 2))
      simp only [show m + 1 + 1 = m + 2 from rfl, show m + 1 + 2 = m + 3 from rfl, show m + 2 + 1 = m + 3 from rfl] at *
      omega
  have := key (l.length - 3) (by omega)
  rw [← ar_all h3, show l.length - 2 + 1 = l.length - 3 + 2 by omega]
  exact this
end Go.Abs
set_option linter.unusedVariables false
set_option linter.unusedSimpArgs false
namespace Go.Abs

def law13_ShapesSound.c (law13_cut shapes_Box shapes_Prism shapes_Pyramid law13_sound planar_Area2 law13_awake : FuncId) : C :=
 (.seq
  (.reg [
    ⟨(some 1), none, .box (.t 0)⟩,
    ⟨(some 2), none, .mv (.c (.b false))⟩])
  (.seq
   (.reg [
     ⟨(some 10), none, .fa 9 (.t 1)⟩,
     ⟨(some 11), none, .ld none (.t 10)⟩,
     ⟨(some 12), none, .call law13_cut [(.t 11)]⟩,
     ⟨(some 3), none, .mv (.t 12)⟩])
   (.seq
    (.reg [
      ⟨(some 14), none, .fa 0 (.t 1)⟩,
      ⟨(some 15), none, .ld (some 3) (.t 14)⟩,
      ⟨(some 16), none, .fa 3 (.t 1)⟩,
      ⟨(some 17), none, .ld (some 3) (.t 16)⟩,
      ⟨(some 18), none, .call shapes_Box [(.t 15), (.t 17)]⟩,
      ⟨(some 13), none, .mv (.t 18)⟩,
      ⟨(some 19), none, .ext (.t 13) 0⟩,
      ⟨(some 20), none, .ext (.t 13) 1⟩,
      ⟨(some 4), none, .alloc [.nil, .nil]⟩,
      ⟨none, none, .st 2 (.t 4) (.t 19)⟩,
      ⟨(some 5), none, .mv (.t 20)⟩])
    (.seq
     (.reg [
       ⟨(some 22), none, .mv (.t 3)⟩,
       ⟨(some 23), none, .fa 10 (.t 1)⟩,
       ⟨(some 24), none, .ld none (.t 23)⟩,
       ⟨(some 25), none, .fa 11 (.t 1)⟩,
       ⟨(some 26), none, .ld none (.t 25)⟩,
       ⟨(some 27), none, .call shapes_Prism [(.t 22), (.t 24), (.t 26)]⟩,
       ⟨(some 21), none, .mv (.t 27)⟩,
       ⟨(some 28), none, .ext (.t 21) 0⟩,
       ⟨(some 29), none, .ext (.t 21) 1⟩,
       ⟨(some 6), none, .alloc [.nil, .nil]⟩,
       ⟨none, none, .st 2 (.t 6) (.t 28)⟩,
       ⟨(some 7), none, .mv (.t 29)⟩])
     (.seq
      (.reg [
        ⟨(some 31), none, .mv (.t 3)⟩,
        ⟨(some 32), none, .fa 10 (.t 1)⟩,
        ⟨(some 33), none, .ld none (.t 32)⟩,
        ⟨(some 34), none, .fa 6 (.t 1)⟩,
        ⟨(some 35), none, .ld (some 3) (.t 34)⟩,
        ⟨(some 36), none, .call shapes_Pyramid [(.t 31), (.t 33), (.t 35)]⟩,
        ⟨(some 30), none, .mv (.t 36)⟩,
        ⟨(some 37), none, .ext (.t 30) 0⟩,
        ⟨(some 38), none, .ext (.t 30) 1⟩,
        ⟨(some 8), none, .alloc [.nil, .nil]⟩,
        ⟨none, none, .st 2 (.t 8) (.t 37)⟩,
        ⟨(some 9), none, .mv (.t 38)⟩])
      (.seq
       (.seq
        (.reg [
          ⟨(some 39), none, .mv (.t 5)⟩,
          ⟨(some 40), none, .bin .eql (.t 39) (.c (.i .i64 0))⟩,
          ⟨(some 41), none, .mv (.t 40)⟩,
          ⟨(some 42), (some (41, true)), .ld (some 2) (.t 4)⟩,
          ⟨(some 43), (some (41, true)), .fa 3 (.t 1)⟩,
          ⟨(some 44), (some (41, true)), .fa 0 (.t 43)⟩,
          ⟨(some 45), (some (41, true)), .ld none (.t 44)⟩,
          ⟨(some 46), (some (41, true)), .bin .mul (.c (.i .i64 6)) (.t 45)⟩,
          ⟨(some 47), (some (41, true)), .fa 3 (.t 1)⟩,
          ⟨(some 48), (some (41, true)), .fa 1 (.t 47)⟩,
          ⟨(some 49), (some (41, true)), .ld none (.t 48)⟩,
          ⟨(some 50), (some (41, true)), .bin .mul (.t 46) (.t 49)⟩,
          ⟨(some 51), (some (41, true)), .fa 3 (.t 1)⟩,
          ⟨(some 52), (some (41, true)), .fa 2 (.t 51)⟩,
          ⟨(some 53), (some (41, true)), .ld none (.t 52)⟩,
          ⟨(some 54), (some (41, true)), .bin .mul (.t 50) (.t 53)⟩,
          ⟨(some 55), (some (41, true)), .call law13_sound [(.t 42), (.t 54)]⟩,
          ⟨(some 56), (some (41, true)), .un .not (.t 55)⟩,
          ⟨(some 57), none, .pick (.t 41) (.t 56) (.c (.b false))⟩])
        (.ite (.t 57)
         (.seq
          (.reg [
            ⟨(some 2), none, .mv (.c (.b false))⟩])
          .ret)
         .skip))
       (.seq
        (.seq
         (.drw [
           ⟨(some 58), none, .mv (.t 7)⟩,
           ⟨(some 59), none, .bin .eql (.t 58) (.c (.i .i64 0))⟩,
           ⟨(some 60), none, .mv (.t 59)⟩,
           ⟨(some 61), (some (60, true)), .ld (some 2) (.t 6)⟩,
           ⟨(some 62), (some (60, true)), .mv (.t 3)⟩,
           ⟨(some 63), (some (60, true)), .call planar_Area2 [(.t 62)]⟩,
           ⟨(some 64), (some (60, true)), .bin .mul (.c (.i .i64 3)) (.t 63)⟩,
           ⟨(some 65), (some (60, true)), .fa 11 (.t 1)⟩,
           ⟨(some 66), (some (60, true)), .ld none (.t 65)⟩,
           ⟨(some 67), (some (60, true)), .bin .mul (.t 64) (.t 66)⟩,
           ⟨(some 68), (some (60, true)), .call law13_sound [(.t 61), (.t 67)]⟩,
           ⟨(some 69), (some (60, true)), .un .not (.t 68)⟩,
           ⟨(some 70), none, .pick (.t 60) (.t 69) (.c (.b false))⟩] [[], [], [], [], [], [3], [], [5], [5], [], [], [], []])
         (.ite (.t 70)
          (.seq
           (.reg [
             ⟨(some 2), none, .mv (.c (.b false))⟩])
           .ret)
          .skip))
        (.seq
         (.drw [
           ⟨(some 71), none, .mv (.t 9)⟩,
           ⟨(some 72), none, .bin .neq (.t 71) (.c (.i .i64 0))⟩,
           ⟨(some 73), none, .mv (.t 72)⟩,
           ⟨(some 74), (some (73, false)), .ld (some 2) (.t 8)⟩,
           ⟨(some 75), (some (73, false)), .mv (.t 3)⟩,
           ⟨(some 76), (some (73, false)), .call planar_Area2 [(.t 75)]⟩,
           ⟨(some 77), (some (73, false)), .fa 6 (.t 1)⟩,
           ⟨(some 78), (some (73, false)), .fa 2 (.t 77)⟩,
           ⟨(some 79), (some (73, false)), .ld none (.t 78)⟩,
           ⟨(some 80), (some (73, false)), .fa 10 (.t 1)⟩,
           ⟨(some 81), (some (73, false)), .ld none (.t 80)⟩,
           ⟨(some 82), (some (73, false)), .bin .sub (.t 79) (.t 81)⟩,
           ⟨(some 83), (some (73, false)), .bin .mul (.t 76) (.t 82)⟩,
           ⟨(some 84), (some (73, false)), .call law13_sound [(.t 74), (.t 83)]⟩,
           ⟨(some 85), none, .pick (.t 73) (.c (.b true)) (.t 84)⟩,
           ⟨(some 86), none, .mv (.t 85)⟩,
           ⟨(some 87), (some (86, true)), .call law13_awake []⟩,
           ⟨(some 88), none, .pick (.t 86) (.t 87) (.c (.b false))⟩,
           ⟨(some 2), none, .mv (.t 88)⟩] [[], [], [], [], [], [3], [5], [5], [5], [5], [5], [], [], [], [], [], [], [], []])
         .ret))))))))
def law13_ShapesSound.r : List Rr := [.tmp 2]
abbrev law13_ShapesSound.n : Nat := 89
def law13_sound.c (topo_Closed orient_Coherent topo_Shells topo_Euler mesh_Volume6 : FuncId) : C :=
 (.seq
  (.reg [
    ⟨(some 2), none, .box (.t 0)⟩,
    ⟨(some 4), none, .mv (.c (.b false))⟩])
  (.seq
   (.reg [
     ⟨(some 5), none, .ld (some 2) (.t 2)⟩,
     ⟨(some 6), none, .call topo_Closed [(.t 5)]⟩,
     ⟨(some 7), none, .mv (.t 6)⟩,
     ⟨(some 8), (some (7, true)), .ld (some 2) (.t 2)⟩,
     ⟨(some 9), (some (7, true)), .call orient_Coherent [(.t 8)]⟩,
     ⟨(some 10), none, .pick (.t 7) (.t 9) (.c (.b false))⟩,
     ⟨(some 11), none, .mv (.t 10)⟩,
     ⟨(some 12), (some (11, true)), .ld (some 2) (.t 2)⟩,
     ⟨(some 13), (some (11, true)), .call topo_Shells [(.t 12)]⟩,
     ⟨(some 14), (some (11, true)), .len 0 (.t 13)⟩,
     ⟨(some 15), (some (11, true)), .bin .eql (.t 14) (.c (.i .i64 1))⟩,
     ⟨(some 16), none, .pick (.t 11) (.t 15) (.c (.b false))⟩,
     ⟨(some 17), none, .mv (.t 16)⟩,
     ⟨(some 18), (some (17, true)), .ld (some 2) (.t 2)⟩,
     ⟨(some 19), (some (17, true)), .call topo_Euler [(.t 18)]⟩,
     ⟨(some 20), (some (17, true)), .bin .eql (.t 19) (.c (.i .i64 2))⟩,
     ⟨(some 21), none, .pick (.t 17) (.t 20) (.c (.b false))⟩,
     ⟨(some 22), none, .mv (.t 21)⟩,
     ⟨(some 23), (some (22, true)), .ld (some 2) (.t 2)⟩,
     ⟨(some 24), (some (22, true)), .call mesh_Volume6 [(.t 23)]⟩,
     ⟨(some 25), (some (22, true)), .mv (.t 1)⟩,
     ⟨(some 26), (some (22, true)), .bin .eql (.t 24) (.t 25)⟩,
     ⟨(some 27), none, .pick (.t 22) (.t 26) (.c (.b false))⟩,
     ⟨(some 28), none, .mv (.t 27)⟩,
     ⟨(some 29), (some (28, true)), .mv (.t 1)⟩,
     ⟨(some 30), (some (28, true)), .bin .gtr (.t 29) (.c (.i .i64 0))⟩,
     ⟨(some 31), none, .pick (.t 28) (.t 30) (.c (.b false))⟩,
     ⟨(some 4), none, .mv (.t 31)⟩])
   .ret))
def law13_sound.r : List Rr := [.tmp 4]
abbrev law13_sound.n : Nat := 32
def planar_Area2.c (planar_Valid : FuncId) : C :=
 (.seq
  (.reg [
    ⟨(some 2), none, .mv (.c (.i .i64 0))⟩])
  (.seq
   (.seq
    (.reg [
      ⟨(some 7), none, .mv (.t 0)⟩,
      ⟨(some 8), none, .len 0 (.t 7)⟩,
      ⟨(some 9), none, .bin .gtr (.t 8) (.c (.i .i64 8192))⟩])
    (.ite (.t 9)
     (.seq
      (.reg [
        ⟨(some 2), none, .mv (.c (.i .i64 0))⟩])
      .ret)
     .skip))
   (.seq
    (.reg [
      ⟨(some 3), none, .mv (.c (.i .i64 0))⟩])
    (.seq
     (.seq
      (.reg [
        ⟨(some 10), none, .mv (.t 0)⟩,
        ⟨(some 11), none, .len 0 (.t 10)⟩,
        ⟨(some 12), none, .mv (.c (.i .i64 0))⟩])
      (.blk 0
       (.loop
        (.seq
         (.reg [
           ⟨(some 13), none, .bin .lss (.t 12) (.t 11)⟩])
         (.seq
          (.ite (.t 13)
           .skip
           (.exit 0))
          (.seq
           (.blk 1
            (.seq
             (.reg [
               ⟨(some 14), none, .mv (.t 12)⟩,
               ⟨(some 15), none, .ia 2 (.t 10) (.t 12)⟩,
               ⟨(some 16), none, .ld (some 2) (.t 15)⟩,
               ⟨(some 5), none, .alloc [(.i .i64 0), (.i .i64 0)]⟩,
               ⟨(some 4), none, .mv (.t 14)⟩,
               ⟨none, none, .st 2 (.t 5) (.t 16)⟩])
             (.seq
              (.reg [
                ⟨(some 17), none, .mv (.t 0)⟩,
                ⟨(some 18), none, .mv (.t 4)⟩,
                ⟨(some 19), none, .bin .add (.t 18) (.c (.i .i64 1))⟩,
                ⟨(some 20), none, .mv (.t 0)⟩,
                ⟨(some 21), none, .len 0 (.t 20)⟩,
                ⟨(some 22), none, .bin .rem (.t 19) (.t 21)⟩,
                ⟨(some 23), none, .ia 2 (.t 17) (.t 22)⟩,
                ⟨(some 24), none, .ld (some 2) (.t 23)⟩,
                ⟨(some 6), none, .alloc [(.i .i64 0), (.i .i64 0)]⟩,
                ⟨none, none, .st 2 (.t 6) (.t 24)⟩])
              (.seq
               (.seq
                (.reg [
                  ⟨(some 25), none, .ld (some 2) (.t 5)⟩,
                  ⟨(some 26), none, .call planar_Valid [(.t 25)]⟩,
                  ⟨(some 27), none, .un .not (.t 26)⟩])
                (.ite (.t 27)
                 (.seq
                  (.reg [
                    ⟨(some 2), none, .mv (.c (.i .i64 0))⟩])
                  .ret)
                 .skip))
               (.reg [
                 ⟨(some 28), none, .mv (.t 3)⟩,
                 ⟨(some 29), none, .fa 0 (.t 5)⟩,
                 ⟨(some 30), none, .ld none (.t 29)⟩,
                 ⟨(some 31), none, .fa 1 (.t 6)⟩,
                 ⟨(some 32), none, .ld none (.t 31)⟩,
                 ⟨(some 33), none, .bin .mul (.t 30) (.t 32)⟩,
                 ⟨(some 34), none, .fa 1 (.t 5)⟩,
                 ⟨(some 35), none, .ld none (.t 34)⟩,
                 ⟨(some 36), none, .fa 0 (.t 6)⟩,
                 ⟨(some 37), none, .ld none (.t 36)⟩,
                 ⟨(some 38), none, .bin .mul (.t 35) (.t 37)⟩,
                 ⟨(some 39), none, .bin .sub (.t 33) (.t 38)⟩,
                 ⟨(some 40), none, .bin .add (.t 28) (.t 39)⟩,
                 ⟨(some 3), none, .mv (.t 40)⟩])))))
           (.reg [
             ⟨(some 41), none, .bin .add (.t 12) (.c (.i .i64 1))⟩,
             ⟨(some 12), none, .mv (.t 41)⟩])))))))
     (.seq
      (.reg [
        ⟨(some 42), none, .mv (.t 3)⟩,
        ⟨(some 2), none, .mv (.t 42)⟩])
      .ret)))))
def planar_Area2.r : List Rr := [.tmp 2]
abbrev planar_Area2.n : Nat := 43

end Go.Abs
set_option linter.unusedVariables false
set_option linter.unusedSimpArgs false
namespace Go.Abs

theorem vsOk1 (p : V3) : vsOk [p] = p.valid := by simp [vsOk]
theorem within_of_add {p s : V3} (h1 : p.valid = true) (h2 : (p.add s).valid = true) : s.within 131072 = true := by
  have a1 := V3.valid_iff.1 h1
  have a2 := V3.valid_iff.1 h2
  simp only [V3.add] at a2
  rw [within_iff]; omega

section
variable {P : Program} (hm : P.follows .mixedOrders = true)
include hm

set_option maxHeartbeats 4000000 in
theorem shapes_Box_ok {f ff fn fp fc fl : FuncId} (hf : FnOk P f (shapes_Box.c ff fn fp fc fl) shapes_Box.r shapes_Box.n)
    (hfit : FitsVC P ff) (hnear : NearC P fn) (hplus : PlusC P fp) (hcor : CornersBC P fc) (hcl : CloneC P fl 3) : BoxC P f := by
  intro p s hp hs
  by_cases h1 : s.x < 1 ∨ s.y < 1 ∨ s.z < 1
  · have hb : boxV p s = mesV noMesh 1 := by simp [boxV, h1]
    rw [hb]
    refine CallIs.res (r := .t [.a [.nil, .nil], .i .i64 1]) ?_ (noMesh_le 1)
    refine PureC.is (pure_of hm hf (Nat.le_of_ble_eq_true rfl) ?_) rfl
    unfold shapes_Box.c
    have h2 : min s.x (min s.y s.z) < 1 := by omega
    simp [go_sem, V3.enc, V3.cs, min_if, h2, shapes_Box.r]
  have h2 : ¬ min s.x (min s.y s.z) < 1 := by omega
  by_cases hok : p.valid = true ∧ (p.add s).valid = true
  · have hb : boxV p s = mesV ⟨boxVerts p s, boxTris⟩ 0 := by simp [boxV, h1, hok]
    have hw := within_of_add hok.1 hok.2
    rw [hb]
    refine PureC.is (pure_of hm hf (Nat.le_of_ble_eq_true rfl) ?_) rfl
    unfold shapes_Box.c
    simp [go_sem, V3.enc, V3.cs, min_if, h2]
    refine ACall_is (hfit [p] (by simp)) ?_
    simp [go_sem, vsOk1, hok.1]
    refine ACall_is (hnear s) ?_
    simp [go_sem, hw]
    refine ACall_is (hplus p s) ?_
    rw [plus_add hok.1 hw]
    simp [go_sem, V3.enc, V3.cs]
    refine ACall_is (hfit [p.add s] (by simp)) ?_
    simp [go_sem, vsOk1, hok.2]
    refine ACall_is (hcor p s hok.1 hw) ?_
    simp [go_sem, V3.cs, boxVerts]
    refine ACall_new (hcl _ (by simp [V.isD]) (by simp)) rfl ?_
    simp [go_sem, shapes_Box.r, V3.cs, mesV, Mesh.enc, Mesh.cs, vsV, tsV, boxTris, T3.cs]
  · have hb : boxV p s = mesV noMesh 8 := by simp [boxV, h1, hok]
    rw [hb]
    refine CallIs.res (r := .t [.a [.nil, .nil], .i .i64 8]) ?_ (noMesh_le 8)
    refine PureC.is (pure_of hm hf (Nat.le_of_ble_eq_true rfl) ?_) rfl
    unfold shapes_Box.c
    simp [go_sem, V3.enc, V3.cs, min_if, h2]
    refine ACall_is (hfit [p] (by simp)) ?_
    cases hpv : p.valid
    · simp [go_sem, vsOk1, hpv, shapes_Box.r]
    simp [go_sem, vsOk1, hpv]
    refine ACall_is (hnear s) ?_
    cases hw : s.within 131072
    · simp [go_sem, shapes_Box.r]
    simp [go_sem]
    refine ACall_is (hplus p s) ?_
    rw [plus_add hpv hw]
    simp [go_sem, V3.enc, V3.cs]
    refine ACall_is (hfit [p.add s] (by simp)) ?_
    have hav : (p.add s).valid = false := by rw [Bool.eq_false_iff]; exact fun h => hok ⟨hpv, h⟩
    simp [go_sem, vsOk1, hav, shapes_Box.r]

end
end Go.Abs
set_option linter.unusedVariables false
set_option linter.unusedSimpArgs false
namespace Go.Abs

structure SolidIn where
  at' : V3
  size : V3
  apex : V3
  base : List P2
  z : Int
  h : Int
def SolidIn.cs (x : SolidIn) : List V := [.i .i64 x.at'.x, .i .i64 x.at'.y, .i .i64 x.at'.z, .i .i64 x.size.x, .i .i64 x.size.y, .i .i64 x.size.z, .i .i64 x.apex.x, .i .i64 x.apex.y, .i .i64 x.apex.z, psV x.base, .i .i64 x.z, .i .i64 x.h]
def SolidIn.enc (x : SolidIn) : V := .a x.cs
def schSo : List Sch := [.i .i64, .i .i64, .i .i64, .i .i64, .i .i64, .i .i64, .i .i64, .i .i64, .i .i64, .sl [.i .i64, .i .i64], .i .i64, .i .i64]

theorem p2_of {e : List V} (h : okL [.i .i64, .i .i64] e) : ∃ v : P2, e = v.cs := by
  simp only [okL, Sch.ok] at h
  obtain ⟨v1, r1, rfl, ⟨x, rfl, _⟩, v2, r2, rfl, ⟨y, rfl, _⟩, rfl⟩ := h
  exact ⟨⟨x, y⟩, rfl⟩

theorem par_so {ps : List (Bool × List Sch)} {us : List V} (h : okPars ((true, schSo) :: ps) us) : ∃ (x : SolidIn) (r : List V), us = x.enc :: r ∧ (x.base.length ≤ 9223372036854775807 ∧ inI x.z = true ∧ inI x.h = true ∧ x.at'.inR = true ∧ x.size.inR = true ∧ x.apex.inR = true) ∧ okPars ps r := by
  simp only [okPars, okPar] at h
  obtain ⟨v, r, rfl, ⟨cs, rfl, hc⟩, hr⟩ := h
  simp only [schSo, okL, Sch.ok] at hc
  obtain ⟨v1, r1, rfl, ⟨a1, rfl, b1⟩, v2, r2, rfl, ⟨a2, rfl, b2⟩, v3, r3, rfl, ⟨a3, rfl, b3⟩, v4, r4, rfl, ⟨a4, rfl, b4⟩, v5, r5, rfl, ⟨a5, rfl, b5⟩, v6, r6, rfl, ⟨a6, rfl, b6⟩, v7, r7, rfl, ⟨a7, rfl, b7⟩, v8, r8, rfl, ⟨a8, rfl, b8⟩, v9, r9, rfl, ⟨a9, rfl, b9⟩, v10, r10, rfl, ⟨els, rfl, hl, he⟩, v11, r11, rfl, ⟨a11, rfl, b11⟩, v12, r12, rfl, ⟨a12, rfl, b12⟩, rfl⟩ := hc
  obtain ⟨ps', rfl⟩ := list_of (fun e => p2_of) els he
  refine ⟨⟨⟨a1, a2, a3⟩, ⟨a4, a5, a6⟩, ⟨a7, a8, a9⟩, ps', a11, a12⟩, r, rfl, ⟨by simpa using hl, inI_iff.2 b11, inI_iff.2 b12, ?_, ?_, ?_⟩, hr⟩ <;> simp only [V3.inR, Bool.and_eq_true, inI_iff]
  · exact ⟨⟨b1, b2⟩, b3⟩
  · exact ⟨⟨b4, b5⟩, b6⟩
  · exact ⟨⟨b7, b8⟩, b9⟩

def CutC (P : Program) (f : FuncId) : Prop := ∀ l : List P2, CallIs P f [psV l] (psV (l.take 100))

section
variable {P : Program} (hm : P.follows .mixedOrders = true)
include hm

theorem law13_cut_ok {f : FuncId} (hf : FnOk P f law13_cut.c law13_cut.r law13_cut.n) : CutC P f := by
  intro l
  refine PureC.is (pure_of hm hf (Nat.le_of_ble_eq_true rfl) ?_) rfl
  unfold law13_cut.c
  by_cases h : (100 : Int) < l.length
  · have h' : 100 ≤ l.length := by omega
    simp [go_sem, psV, h, h', law13_cut.r]
  · simp [go_sem, psV, h, law13_cut.r]
    exact (List.take_of_length_le (by simp; omega)).symm

end
end Go.Abs
