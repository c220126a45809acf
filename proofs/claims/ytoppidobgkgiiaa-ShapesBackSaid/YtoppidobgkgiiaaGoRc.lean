/- Part of the library on which the proof stands: an abstract machine, its values and its soundness against the model; or what functions of the program do to such values. -/
import Derived.Test.YtoppidobgkgiiaaGoShpU
import Derived.Test.YtoppidobgkgiiaaGoTo
import Derived.Test.YtoppidobgkgiiaaGoToB
import Derived.Test.YtoppidobgkgiiaaGoShp
set_option linter.unusedVariables false
set_option linter.unusedSimpArgs false
namespace Go.Abs

theorem Mesh.mapV_mapV (m : Mesh) (g k : V3 → V3) : (m.mapV g).mapV k = m.mapV (fun v => k (g v)) := by
  unfold Mesh.mapV
  simp [List.map_map, Function.comp]
theorem mapV_idOf {m : Mesh} {g : V3 → V3} (h : ∀ v ∈ m.verts, g v = v) : m.mapV g = m := by
  unfold Mesh.mapV
  have : m.verts.map g = m.verts := by
    conv => rhs; rw [← List.map_id m.verts]
    exact List.map_congr_left h
  rw [this]
theorem mapV_check {m : Mesh} (hz : m.check = 0) {g : V3 → V3} (hg : vsOk (m.verts.map g) = true) : (m.mapV g).check = 0 := by
  obtain ⟨z1, z2, z3, z4⟩ := Mesh.check_zero.1 hz
  refine Mesh.check_zero.2 ⟨by simpa [Mesh.mapV] using z1, z2, hg, ?_⟩
  simpa [Mesh.mapV] using z4
theorem vsOk_map {l : List V3} {g : V3 → V3} (hl : vsOk l = true) (hg : ∀ v : V3, v.valid = true → (g v).valid = true) : vsOk (l.map g) = true := by
  simp only [vsOk, List.all_eq_true] at hl ⊢
  intro v hv
  obtain ⟨u, hu, rfl⟩ := List.mem_map.1 hv
  exact hg u (hl u hu)
/-- The vector that is moved back by. -/
def V3.neg (d : V3) : V3 := ⟨IntKind.i64.wrap (0 - d.x), IntKind.i64.wrap (0 - d.y), IntKind.i64.wrap (0 - d.z)⟩
theorem neg_add {v d : V3} (hv : v.valid = true) (hd : (v.add d).valid = true) : (v.add d).add d.neg = v := by
  have h1 := V3.valid_iff.1 hv
  have h2 := V3.valid_iff.1 hd
  simp only [V3.add] at h2
  cases v; cases d
  simp only [V3.add, V3.neg, V3.mk.injEq] at h1 h2 ⊢
  refine ⟨?_, ?_, ?_⟩ <;> rw [wrap64_small (by omega) (by omega)] <;> omega
theorem neg_inR (d : V3) : d.neg.inR = true := by
  have : ∀ z : Int, inI (IntKind.i64.wrap z) = true := fun z => by
    simp only [inI, Bool.and_eq_true, decide_eq_true_eq, IntKind.wrap, IntKind.bits, IntKind.signed]
    simp
    omega
  simp [V3.inR, V3.neg, this]
theorem move_back {m : Mesh} (hz : m.check = 0) {d : V3} (hd : vsOk (m.verts.map (·.add d)) = true) : moveV (m.mapV (·.add d)) d.neg = mesV m 0 := by
  have hz2 := mapV_check hz hd
  obtain ⟨z1, z2, z3, z4⟩ := Mesh.check_zero.1 hz
  have hid : (m.mapV (·.add d)).mapV (·.add d.neg) = m := by
    rw [Mesh.mapV_mapV]
    refine mapV_idOf fun v hv => neg_add ?_ ?_
    · exact List.all_eq_true.1 z3 v hv
    · exact List.all_eq_true.1 hd _ (List.mem_map.2 ⟨v, hv, rfl⟩)
  have hv2 : ((m.mapV (·.add d)).verts.map (·.add d.neg)) = m.verts := congrArg Mesh.verts hid
  unfold moveV
  rw [if_neg (by simpa using hz2), hv2, if_neg (by rw [z3]; simp), hid]
theorem turnK_add (a b : Nat) (v : V3) : turnK a (turnK b v) = turnK (a + b) v := by
  induction a with
  | zero => rw [Nat.zero_add]; rfl
  | succ a ih => rw [show a + 1 + b = (a + b) + 1 by omega]; show turn1 _ = turn1 _; rw [ih]
theorem turn4 (v : V3) : turnK 4 v = v := by
  cases v
  simp [turnK, turn1]
theorem quarter_neg (n : Int) : quarter (-n) + quarter n = 0 ∨ quarter (-n) + quarter n = 4 := by
  have h1 := quarter_lt n
  have h2 := quarter_lt (-n)
  rw [Int.neg_tmod] at h2
  have h3 := Int.tmod_lt_of_pos n (show (0 : Int) < 4 by omega)
  have h4 : -4 < n.tmod 4 := by
    have h5 := Int.tmod_lt_of_pos (-n) (show (0 : Int) < 4 by omega)
    rw [Int.neg_tmod] at h5
    omega
  generalize n.tmod 4 = r at *
  have e1 : (r + 4).tmod 4 = (r + 4) % 4 := by rw [Int.tmod_eq_emod_of_nonneg (by omega)]
  have e2 : (-r + 4).tmod 4 = (-r + 4) % 4 := by rw [Int.tmod_eq_emod_of_nonneg (by omega)]
  rw [e1] at h1
  rw [e2] at h2
  omega
theorem turn_back {m : Mesh} (hz : m.check = 0) (n : Int) : turnV (m.mapV (turnK (quarter n))) (-n) = mesV m 0 := by
  obtain ⟨z1, z2, z3, z4⟩ := Mesh.check_zero.1 hz
  have hz2 := mapV_check hz (g := turnK (quarter n)) (vsOk_map z3 fun v hv => turnK_valid hv _)
  unfold turnV
  rw [if_neg (by simpa using hz2), Mesh.mapV_mapV, mapV_idOf]
  intro v _
  rw [turnK_add]
  rcases quarter_neg n with h | h
  · rw [h]; rfl
  · rw [h, turn4]
theorem rev_check' {m : Mesh} (hz : m.check = 0) : m.rev.check = 0 := by
  obtain ⟨z1, z2, z3, z4⟩ := Mesh.check_zero.1 hz
  refine Mesh.check_zero.2 ⟨z1, by simpa [Mesh.rev] using z2, z3, ?_⟩
  simp only [tsOk, List.all_eq_true, Mesh.rev, List.mem_map] at z4 ⊢
  rintro x ⟨t, ht, rfl⟩
  have := T3.ok_iff.1 (z4 t ht)
  exact T3.ok_iff.2 ⟨this.1, this.2.1, this.2.2.2.2.1, this.2.2.2.2.2, this.2.2.1, this.2.2.2.1⟩
theorem mir_valid {v : V3} (h : v.valid = true) : (mir v).valid = true := by
  have := V3.valid_iff.1 h
  rw [V3.valid_iff]; simp only [mir]; omega
theorem mir_check {m : Mesh} (hz : m.check = 0) : (m.rev.mapV mir).check = 0 :=
  mapV_check (rev_check' hz) (vsOk_map (Mesh.check_zero.1 hz).2.2.1 fun v hv => mir_valid hv)
theorem mir_back {m : Mesh} (hz : m.check = 0) : mirV (m.rev.mapV mir) = mesV m 0 := by
  unfold mirV
  rw [if_neg (by simpa using mir_check hz)]
  congr 1
  show Mesh.mk (((m.verts.map mir)).map mir) ((m.tris.map T3.rev).map T3.rev) = m
  have h1 : (m.verts.map mir).map mir = m.verts := by
    rw [List.map_map]
    conv => rhs; rw [← List.map_id m.verts]
    exact List.map_congr_left fun v _ => by cases v; simp [mir]
  have h2 : (m.tris.map T3.rev).map T3.rev = m.tris := by
    rw [List.map_map]
    conv => rhs; rw [← List.map_id m.tris]
    exact List.map_congr_left fun t _ => by cases t; rfl
  rw [h1, h2]

/- Volumes. -/
theorem vAt_map {vs : List V3} {g : V3 → V3} {i : Int} (h0 : 0 ≤ i) (h : i < vs.length) : vAt (vs.map g) i = g (vAt vs i) := by
  have h1 := vAt_get h0 h
  unfold vAt
  rw [List.getElem?_map, h1]; rfl
theorem volT_map {vs : List V3} {g : V3 → V3} {t : T3} (ht : t.ok vs.length = true) : volT (vs.map g) t = det3 (g (vAt vs t.a)) (g (vAt vs t.b)) (g (vAt vs t.c)) := by
  obtain ⟨a1, a2, b1, b2, c1, c2⟩ := T3.ok_iff.1 ht
  unfold volT
  rw [vAt_map a1 a2, vAt_map b1 b2, vAt_map c1 c2]
theorem vol_congr {m : Mesh} (hz : m.check = 0) {g : V3 → V3} (hg : ∀ a b c : V3, det3 (g a) (g b) (g c) = det3 a b c) : volL (m.verts.map g) m.tris = volL m.verts m.tris := by
  obtain ⟨z1, z2, z3, z4⟩ := Mesh.check_zero.1 hz
  unfold volL
  congr 1
  refine List.map_congr_left fun t ht => ?_
  rw [volT_map (List.all_eq_true.1 z4 t ht), hg]; rfl
theorem det_turn1 (a b c : V3) : det3 (turn1 a) (turn1 b) (turn1 c) = det3 a b c := by
  unfold det3 dot3 crs turn1
  grind
theorem det_turnK (k : Nat) (a b c : V3) : det3 (turnK k a) (turnK k b) (turnK k c) = det3 a b c := by
  induction k with
  | zero => rfl
  | succ k ih => show det3 (turn1 _) (turn1 _) (turn1 _) = _; rw [det_turn1, ih]
theorem det_mir (a b c : V3) : det3 (mir a) (mir b) (mir c) = - det3 a b c := by
  unfold det3 dot3 crs mir
  grind
theorem vol6_ok {m : Mesh} (hz : m.check = 0) : m.vol6 = volL m.verts m.tris := by unfold Mesh.vol6; rw [if_pos hz]
theorem vol_turn {m : Mesh} (hz : m.check = 0) (k : Nat) : (m.mapV (turnK k)).vol6 = m.vol6 := by
  have hz2 := mapV_check hz (g := turnK k) (vsOk_map (Mesh.check_zero.1 hz).2.2.1 fun v hv => turnK_valid hv _)
  rw [vol6_ok hz, vol6_ok hz2]
  exact vol_congr hz (det_turnK k)
theorem vol_mir {m : Mesh} (hz : m.check = 0) : (m.rev.mapV mir).vol6 = m.vol6 := by
  obtain ⟨z1, z2, z3, z4⟩ := Mesh.check_zero.1 hz
  rw [vol6_ok hz, vol6_ok (mir_check hz)]
  show volL (m.verts.map mir) (m.tris.map T3.rev) = _
  rw [volL_rev]
  have : volL (m.verts.map mir) m.tris = - volL m.verts m.tris := by
    unfold volL
    have h1 : m.tris.map (volT (m.verts.map mir)) = m.tris.map fun t => - volT m.verts t := List.map_congr_left fun t ht => by
      rw [volT_map (List.all_eq_true.1 z4 t ht), det_mir]; rfl
    rw [h1]
    generalize m.tris = l
    induction l with
    | nil => rfl
    | cons t l ih => simp only [List.map_cons, List.sum_cons, ih]; omega
  omega
theorem closed_cnt {m : Mesh} (h : m.closed = true) (e : P2) : (alluses m.tris).count e = (alluses m.tris).count e.rev := by
  have key : ∀ e : P2, (alluses m.tris).count e ≤ (alluses m.tris).count e.rev := by
    intro e
    unfold Mesh.closed at h
    simp only [Bool.and_eq_true, decide_eq_true_eq] at h
    obtain ⟨hz, hb⟩ := h
    by_cases he : e ∈ alluses m.tris
    · have hne : ¬ e ∈ m.border := by rw [hb]; simp
      rw [mem_border] at hne
      have h1 : ¬ m.use e.rev < m.use e := fun hh => hne ⟨hz, he, hh⟩
      unfold Mesh.use at h1
      rw [if_pos hz, if_pos hz] at h1
      omega
    · rw [List.count_eq_zero_of_not_mem he]; omega
  have h1 := key e
  have h2 := key e.rev
  rw [show e.rev.rev = e from rfl] at h2
  omega
theorem closed_permR {m : Mesh} (h : m.closed = true) : (alluses m.tris).Perm ((alluses m.tris).map P2.rev) := by
  rw [List.perm_iff_count]
  intro e
  rw [closed_cnt h e, List.count, List.count, List.countP_map]
  refine List.countP_congr fun x _ => ?_
  simp only [Function.comp, beq_iff_eq]
  constructor
  · rintro rfl; rfl
  · rintro rfl; rfl
theorem perm_sum {a b : List Int} (h : a.Perm b) : a.sum = b.sum := by
  induction h with
  | nil => rfl
  | cons x _ ih => simp only [List.sum_cons, ih]
  | swap x y l => simp only [List.sum_cons]; omega
  | trans _ _ h1 h2 => rw [h1, h2]
/-- What turns its sign with the edge cancels out. -/
theorem closed_sum {m : Mesh} (h : m.closed = true) {g : P2 → Int} (hg : ∀ e, g e.rev = - g e) : ((alluses m.tris).map g).sum = 0 := by
  have h1 := perm_sum ((closed_permR h).map g)
  rw [List.map_map] at h1
  have h2 : ∀ l : List P2, (l.map (g ∘ P2.rev)).sum = - (l.map g).sum := by
    intro l
    induction l with
    | nil => rfl
    | cons a l ih => simp only [List.map_cons, List.sum_cons, ih, Function.comp, hg]; omega
  rw [h2] at h1
  omega
theorem sum_alluses (g : P2 → Int) (hg : ∀ e : P2, e.x = e.y → g e = 0) : ∀ ts : List T3, ((alluses ts).map g).sum = (ts.map fun t => g ⟨t.a, t.b⟩ + g ⟨t.b, t.c⟩ + g ⟨t.c, t.a⟩).sum
  | [] => rfl
  | t :: ts => by
    have h0 : alluses (t :: ts) = edgesOf t ++ alluses ts := rfl
    have h1 : ((edgesOf t).map g).sum = g ⟨t.a, t.b⟩ + g ⟨t.b, t.c⟩ + g ⟨t.c, t.a⟩ := by
      have h2 : edgesOf t = (edges3 t).filter fun e => decide (e.x ≠ e.y) := rfl
      have h3 : ∀ l : List P2, ((l.filter fun e => decide (e.x ≠ e.y)).map g).sum = (l.map g).sum := by
        intro l
        induction l with
        | nil => rfl
        | cons a l ih =>
          rw [List.filter_cons]
          by_cases h : a.x = a.y
          · simp only [h, ne_eq, not_true, decide_false, Bool.false_eq_true, if_false, ih, List.map_cons, List.sum_cons, hg a h]; omega
          · simp only [h, ne_eq, not_false_eq_true, decide_true, if_true, List.map_cons, List.sum_cons, ih]
      rw [h2, h3]
      simp only [edges3, List.map_cons, List.map_nil, List.sum_cons, List.sum_nil]; omega
    rw [h0, List.map_append, List.sum_append, h1, sum_alluses g hg ts, List.map_cons, List.sum_cons]
theorem det_add (a b c d : V3) : det3 (a.add d) (b.add d) (c.add d) = det3 a b c + (dot3 d (crs a b) + dot3 d (crs b c) + dot3 d (crs c a)) := by
  unfold det3 dot3 crs V3.add
  grind
theorem vol_move {m : Mesh} (hc : m.closed = true) {d : V3} (hd : vsOk (m.verts.map (·.add d)) = true) : (m.mapV (·.add d)).vol6 = m.vol6 := by
  have hz : m.check = 0 := by
    simp only [Mesh.closed, Bool.and_eq_true, decide_eq_true_eq] at hc; exact hc.1
  obtain ⟨z1, z2, z3, z4⟩ := Mesh.check_zero.1 hz
  rw [vol6_ok hz, vol6_ok (mapV_check hz hd)]
  show volL (m.verts.map (·.add d)) m.tris = _
  have h1 := closed_sum hc (g := fun e => dot3 d (crs (vAt m.verts e.x) (vAt m.verts e.y))) (fun e => by
    unfold dot3 crs P2.rev; grind)
  rw [sum_alluses _ (fun e he => by rw [he]; unfold dot3 crs; grind)] at h1
  have h2 : ∀ l : List T3, (∀ t ∈ l, t.ok m.verts.length = true) → volL (m.verts.map (·.add d)) l = volL m.verts l +
      (l.map fun t => dot3 d (crs (vAt m.verts t.a) (vAt m.verts t.b)) + dot3 d (crs (vAt m.verts t.b) (vAt m.verts t.c)) + dot3 d (crs (vAt m.verts t.c) (vAt m.verts t.a))).sum := by
    intro l hl
    induction l with
    | nil => rfl
    | cons t l ih =>
      rw [volL_cons, volL_cons, ih (fun x hx => hl x (by simp [hx])), List.map_cons, List.sum_cons, volT_map (hl t (by simp)), det_add]
      unfold volT
      omega
  rw [h2 _ (List.all_eq_true.1 z4), h1]
  omega
end Go.Abs
set_option linter.unusedVariables false
set_option linter.unusedSimpArgs false
namespace Go.Abs

def SmallVC (P : Program) (f : FuncId) : Prop := ∀ v : V3, CallIs P f [v.enc] (.b (v.within 131072))
def CrossVC (P : Program) (f : FuncId) : Prop := ∀ b c : V3, b.valid = true → c.valid = true → CallIs P f [b.enc, c.enc] (crs b c).enc
def DotVC (P : Program) (f : FuncId) : Prop := ∀ a b : V3, a.valid = true → b.within 8589934592 = true → CallIs P f [a.enc, b.enc] (.i .i64 (dot3 a b))
theorem valid_small {v : V3} (h : v.valid = true) : v.within 131072 = true := by
  have := V3.valid_iff.1 h
  simp [V3.within]; omega
theorem within_mono {v : V3} {a b : Int} (hab : a ≤ b) (h : v.within a = true) : v.within b = true := by
  simp [V3.within] at h ⊢; omega
theorem crs_within {b c : V3} (hb : b.valid = true) (hc : c.valid = true) : (crs b c).within 8589934592 = true := by
  have := crs_b hb hc
  simp [V3.within]; omega

section
variable {P : Program} (hm : P.follows .mixedOrders = true)
include hm

theorem vec_small_ok {f fw : FuncId} (hf : FnOk P f (vec_small.c fw) vec_small.r vec_small.n) (hw : WithinC P fw) : SmallVC P f := by
  intro v
  refine PureC.is (pure_of hm hf (Nat.le_of_ble_eq_true rfl) ?_) rfl
  unfold vec_small.c
  simp [go_sem, V3.enc, V3.cs]
  refine ACall_is ((hw v 131072 (by omega) (by omega)).is rfl) ?_
  simp [go_sem, vec_small.r]

set_option maxHeartbeats 4000000 in
theorem vec_Cross_ok {f fs : FuncId} (hf : FnOk P f (vec_Cross.c fs) vec_Cross.r vec_Cross.n) (hs : SmallVC P fs) : CrossVC P f := by
  intro b c hb hc
  refine PureC.is (pure_of hm hf (Nat.le_of_ble_eq_true rfl) ?_) rfl
  unfold vec_Cross.c
  have h1 := hs b
  have h2 := hs c
  rw [valid_small hb] at h1
  rw [valid_small hc] at h2
  obtain ⟨b1, b2, b3, b4, b5, b6⟩ := V3.valid_iff.1 hb
  obtain ⟨c1, c2, c3, c4, c5, c6⟩ := V3.valid_iff.1 hc
  have m1 := mul16 b3 b4 c5 c6
  have m2 := mul16 b5 b6 c3 c4
  have m3 := mul16 b5 b6 c1 c2
  have m4 := mul16 b1 b2 c5 c6
  have m5 := mul16 b1 b2 c3 c4
  have m6 := mul16 b3 b4 c1 c2
  have hcr : crs b c = ⟨b.y * c.z - b.z * c.y, b.z * c.x - b.x * c.z, b.x * c.y - b.y * c.x⟩ := rfl
  rw [hcr]
  simp [go_sem, V3.enc, V3.cs] at h1 h2 ⊢
  refine ACall_is h1 ?_
  simp [go_sem]
  refine ACall_is h2 ?_
  simp (disch := omega) [go_sem, wrap64_small, vec_Cross.r]

set_option maxHeartbeats 4000000 in
theorem vec_Dot_ok {f fs fw : FuncId} (hf : FnOk P f (vec_Dot.c fs fw) vec_Dot.r vec_Dot.n) (hs : SmallVC P fs) (hw : WithinC P fw) : DotVC P f := by
  intro a b ha hb
  refine PureC.is (pure_of hm hf (Nat.le_of_ble_eq_true rfl) ?_) rfl
  unfold vec_Dot.c
  have h1 := hs a
  have h2 := (hw b 1099511627776 (by omega) (by omega)).is rfl
  rw [valid_small ha] at h1
  rw [within_mono (by omega) hb] at h2
  obtain ⟨b1, b2, b3, b4, b5, b6⟩ := V3.valid_iff.1 ha
  simp only [V3.within, Bool.and_eq_true, decide_eq_true_eq] at hb
  obtain ⟨⟨⟨⟨⟨c1, c2⟩, c3⟩, c4⟩, c5⟩, c6⟩ := hb
  have m1 := mulB b1 b2 c1 c2
  have m2 := mulB b3 b4 c3 c4
  have m3 := mulB b5 b6 c5 c6
  have hd : dot3 a b = a.x * b.x + a.y * b.y + a.z * b.z := rfl
  rw [hd]
  simp [go_sem, V3.enc, V3.cs] at h1 h2 ⊢
  refine ACall_is h1 ?_
  simp [go_sem]
  refine ACall_is h2 ?_
  simp (disch := omega) [go_sem, wrap64_small, vec_Dot.r]

theorem vec_Det_ok {f fs fc fd : FuncId} (hf : FnOk P f (vec_Det.c fs fc fd) vec_Det.r vec_Det.n) (hs : SmallVC P fs) (hc : CrossVC P fc) (hd : DotVC P fd) : DetC P f := by
  intro x y z hx hy hz
  refine PureC.is (pure_of hm hf (Nat.le_of_ble_eq_true rfl) ?_) rfl
  unfold vec_Det.c
  have h1 := hs y
  have h2 := hs z
  rw [valid_small hy] at h1
  rw [valid_small hz] at h2
  simp [go_sem, V3.enc, V3.cs] at h1 h2 ⊢
  refine ACall_is h1 ?_
  simp [go_sem]
  refine ACall_is h2 ?_
  simp [go_sem]
  refine DCall_is (hc y z hy hz) ?_
  simp [go_sem]
  refine DCall_is (hd x (crs y z) hx (crs_within hy hz)) ?_
  simp [go_sem, vec_Det.r, det3]

set_option maxHeartbeats 4000000 in
theorem mesh_Volume6_ok {f fc fd : FuncId} (hf : FnOk P f (mesh_Volume6.c fc fd) mesh_Volume6.r mesh_Volume6.n) (hc : CheckC P fc) (hd : DetC P fd) : VolC P f := by
  intro m
  refine PureC.is (pure_of hm hf (Nat.le_of_ble_eq_true rfl) ?_) rfl
  unfold mesh_Volume6.c
  have hv : m.vol6 = if m.check = 0 then volL m.verts m.tris else 0 := rfl
  by_cases hz : m.check = 0
  case neg =>
    rw [hv, if_neg hz]
    simp [go_sem, Mesh.enc, Mesh.cs]
    refine ACall_is (hc m) ?_
    simp [go_sem, hz, mesh_Volume6.r]
  rw [hv, if_pos hz]
  obtain ⟨z1, z2, z3, z4⟩ := Mesh.check_zero.1 hz
  simp [go_sem, Mesh.enc, Mesh.cs]
  refine ACall_is (hc m) ?_
  simp [go_sem, hz, vsV, tsV]
  refine AS_loop (α := Nat) (fun k => k ≤ m.tris.length)
    (fun k => ⟨[(1, .p 0 1 0 0), (3, .i .i64 (volL m.verts (m.tris.take k))), (10, tsV m.tris), (11, .i .i64 m.tris.length), (12, .i .i64 k)], [.arr 1 2 [m.cs]]⟩)
    (fun k => m.tris.length - k) 0 (Nat.zero_le _) ?_ ?_
  · simp [go_sem, Mesh.cs, vsV, tsV, volL_nil]
  · intro k hk
    by_cases hkl : k = m.tris.length
    · subst hkl
      rw [List.take_length]
      simp [go_sem, Mesh.cs, vsV, tsV, mesh_Volume6.r]
    · have hlt : k < m.tris.length := by omega
      have hp : m.tris[k]? = some m.tris[k] := List.getElem?_eq_getElem hlt
      generalize m.tris[k] = t at hp
      obtain ⟨_, hp'⟩ := List.getElem?_eq_some_iff.1 hp
      have hok := tsOk_get z4 hp
      obtain ⟨a1, a2, b1, b2, c1, c2⟩ := T3.ok_iff.1 hok
      have ga := vAt_get a1 a2
      have gb := vAt_get b1 b2
      have gc := vAt_get c1 c2
      have va := vAt_valid z3 a1 a2
      have vb := vAt_valid z3 b1 b2
      have vc := vAt_valid z3 c1 c2
      have hb1 := volL_b z3 (ts := m.tris.take k) (by
        simp only [tsOk, List.all_eq_true] at z4 ⊢
        exact fun x hx => z4 x (List.mem_of_mem_take hx))
      have hb2 := volT_b z3 hok
      have hln : ((m.tris.take k).length : Int) ≤ 4096 := by rw [List.length_take]; omega
      have hs : volL m.verts (m.tris.take (k + 1)) = volL m.verts (m.tris.take k) + volT m.verts t := by
        rw [List.take_add_one, hp, volL_app, Option.toList_some, volL_cons, volL_nil]; omega
      have hvt : volT m.verts t = det3 (vAt m.verts t.a) (vAt m.verts t.b) (vAt m.verts t.c) := rfl
      have hdd := hd _ _ _ va vb vc
      rw [← hvt] at hdd
      clear hvt
      generalize vAt m.verts t.a = A at *
      generalize vAt m.verts t.b = B at *
      generalize vAt m.verts t.c = C at *
      generalize volL m.verts (m.tris.take k) = S at *
      generalize volT m.verts t = T at *
      obtain ⟨ia, ga'⟩ := List.getElem?_eq_some_iff.1 ga
      obtain ⟨ib, gb'⟩ := List.getElem?_eq_some_iff.1 gb
      obtain ⟨ic, gc'⟩ := List.getElem?_eq_some_iff.1 gc
      simp [go_sem, Mesh.cs, vsV, tsV, hlt, hp, hp', tcs, a1, b1, c1, ga, gb, gc, ia, ib, ic, ga', gb', gc', vcs]
      simp [go_sem, V3.enc, vcs] at hdd
      refine DCall_is hdd ?_
      simp (disch := omega) [go_sem, wrap64_small]
      refine ⟨k + 1, by omega, by omega, ?_⟩
      exact ⟨hs.symm, by omega⟩
end
end Go.Abs
set_option linter.unusedVariables false
set_option linter.unusedSimpArgs false
namespace Go.Abs

theorem Sg_skip2 {P : Program} {n0 : Nat} {js : List Nat} {lg : List (List Nat × List Nat)} {f : FuncId} {args : List A} {b : Bool} {env : List (Nat × V)} {h : List O} {K : List Nat × List Nat → V → List O → Prop} : Sg P n0 js lg (.call f args) (.t []) b env h K = K ([], []) (.t []) h := _root_.id rfl

section
variable {P : Program} (hm : P.follows .mixedOrders = true)
include hm

set_option maxHeartbeats 4000000 in
theorem mesh_Same_ok {f : FuncId} (hf : FnOk P f mesh_Same.c mesh_Same.r mesh_Same.n) : SameMC P f := by
  intro m hl1 hl2
  refine PureC.is (pure_of hm hf (Nat.le_of_ble_eq_true rfl) ?_) rfl
  unfold mesh_Same.c
  simp [go_sem, Mesh.enc, Mesh.cs, vsV, tsV]
  refine AS_loop (α := Nat) (fun k => k ≤ m.verts.length)
    (fun k => ⟨[(2, .p 0 1 0 0), (3, .p 1 1 0 0), (25, .i .i64 m.verts.length), (26, .i .i64 k)], [.arr 1 2 [m.cs], .arr 1 2 [m.cs]]⟩)
    (fun k => m.verts.length - k) 0 (Nat.zero_le _) ?_ ?_
  · simp [go_sem, Mesh.cs, vsV, tsV]
  · intro k hk
    cases hp : m.verts[k]? with
    | none =>
      have : ¬ k < m.verts.length := by simpa using hp
      obtain rfl : k = m.verts.length := by omega
      simp [go_sem, vsV, tsV, Mesh.cs]
      refine AS_loop (α := Nat) (fun k => k ≤ m.tris.length)
        (fun k => ⟨[(2, .p 0 1 0 0), (3, .p 1 1 0 0), (43, .i .i64 m.tris.length), (44, .i .i64 k)], [.arr 1 2 [m.cs], .arr 1 2 [m.cs]]⟩)
        (fun k => m.tris.length - k) 0 (Nat.zero_le _) ?_ ?_
      · simp [go_sem, Mesh.cs, vsV, tsV]
      · intro k hk
        cases hp : m.tris[k]? with
        | none =>
          have : ¬ k < m.tris.length := by simpa using hp
          obtain rfl : k = m.tris.length := by omega
          simp [go_sem, vsV, tsV, Mesh.cs, mesh_Same.r]
        | some p =>
          obtain ⟨hlt, hp'⟩ := List.getElem?_eq_some_iff.1 hp
          simp (disch := omega) [go_sem, vsV, tsV, Mesh.cs, hlt, hp', tcs, wrap64_small]
          exact ⟨k + 1, by omega, by omega, by omega⟩
    | some p =>
      obtain ⟨hlt, hp'⟩ := List.getElem?_eq_some_iff.1 hp
      simp (disch := omega) [go_sem, vsV, tsV, Mesh.cs, hlt, hp', vcs, wrap64_small]
      exact ⟨k + 1, by omega, by omega, by omega⟩

set_option maxRecDepth 20000 in
set_option maxHeartbeats 8000000 in
theorem ShapesBack_ok {f fh fc fa fm fs fcl fv ft fi : FuncId} (hf : FnOk P f (law13_ShapesBack.c fh fc fa fm fs fcl fv ft fi) law13_ShapesBack.r law13_ShapesBack.n)
    (hh : HeavyC P fh) (hc : CheckC P fc) (ha : AwakeC P fa) (hmv : MoveC P fm) (hs : SameMC P fs) (hcl : ClosedC P fcl) (hv : VolC P fv) (ht : TurnC P ft) (hi : MirrorC P fi) (m : Mesh) (d : V3) (n : Int) (hd : d.inR = true) (hn : inI n = true) :
    PureC P f [m.enc, d.enc, .i .i64 n] (· = .b true) := by
  refine pure_of hm hf (Nat.le_of_ble_eq_true rfl) ?_
  unfold law13_ShapesBack.c
  have hh1 := hh m
  have hc1 := hc m
  simp only [Mesh.enc, Mesh.cs] at hh1 hc1
  simp [go_sem, Mesh.enc, Mesh.cs, V3.enc, V3.cs]
  refine ACall_is hh1 ?_
  cases hhv : (decide (150 < m.verts.length) || decide (150 < m.tris.length))
  case true =>
    simp [go_sem]
    refine ACall_is ha ?_
    simp [go_sem, law13_ShapesBack.r]
  simp [go_sem]
  refine ACall_is hc1 ?_
  by_cases hz : m.check = 0
  case neg =>
    have hz' : (m.check != 0) = true := by simpa using hz
    simp [go_sem, hz, hz']
    refine ACall_is ha ?_
    simp [go_sem, law13_ShapesBack.r]
  cases hn1 : decide (n < -1099511627776)
  case true =>
    simp [go_sem, hz, hn1]
    refine ACall_is ha ?_
    simp [go_sem, law13_ShapesBack.r]
  cases hn2 : decide (1099511627776 < n)
  case true =>
    simp [go_sem, hz, hn1, hn2]
    refine ACall_is ha ?_
    simp [go_sem, law13_ShapesBack.r]
  have hnn1 : -1099511627776 ≤ n := by simpa using hn1
  have hnn2 : n ≤ 1099511627776 := by simpa using hn2
  simp only [Bool.or_eq_false_iff, decide_eq_false_iff_not, Nat.not_lt] at hhv
  -- what turning and mirroring give
  have ht1 := ht m n hn
  have et1 : turnV m n = mesV (m.mapV (turnK (quarter n))) 0 := by unfold turnV; rw [if_neg (by simpa using hz)]
  have ht2 := ht (m.mapV (turnK (quarter n))) (-n) (by simp [inI]; omega)
  rw [turn_back hz n] at ht2
  rw [et1] at ht1
  have hi1 := hi m
  have ei1 : mirV m = mesV (m.rev.mapV mir) 0 := by unfold mirV; rw [if_neg (by simpa using hz)]
  have hi2 := hi (m.rev.mapV mir)
  rw [mir_back hz] at hi2
  rw [ei1] at hi1
  have hs1 := hs m (by omega) (by omega)
  have hvm := hv m
  have hvt := hv (m.mapV (turnK (quarter n)))
  have hvi := hv (m.rev.mapV mir)
  rw [vol_turn hz] at hvt
  rw [vol_mir hz] at hvi
  have hcl1 := hcl m
  have hmv1 := hmv m d hd
  have hmv2 := hmv (m.mapV (·.add d)) d.neg (neg_inR d)
  have hva := hv (m.mapV (·.add d))
  have hback := fun h => move_back hz (d := d) h
  have hvol := fun hc h => vol_move (m := m) hc (d := d) h
  have emv : moveV m d = if vsOk (m.verts.map (·.add d)) = false then mesV noMesh 8 else mesV (m.mapV (·.add d)) 0 := by unfold moveV; rw [if_neg (by simpa using hz)]
  rw [emv] at hmv1
  generalize m.mapV (turnK (quarter n)) = mt at *
  generalize m.rev.mapV mir = mi at *
  generalize m.mapV (·.add d) = ma at *
  generalize m.vol6 = vm at *
  have hneg : d.neg.enc = .a [.i .i64 (IntKind.i64.wrap (0 - d.x)), .i .i64 (IntKind.i64.wrap (0 - d.y)), .i .i64 (IntKind.i64.wrap (0 - d.z))] := rfl
  rw [hneg] at hmv2
  have hwn : IntKind.i64.wrap (0 - n) = -n := by rw [wrap64_small (by omega) (by omega)]; omega
  have hwn2 : IntKind.i64.wrap (-n) = -n := wrap64_small (by omega) (by omega)
  simp only [Mesh.enc, Mesh.cs, V3.enc, V3.cs, mesV] at ht1 ht2 hi1 hi2 hs1 hvm hvt hvi hcl1 hmv1 hmv2 hva
  simp [go_sem, hz, hn1, hn2]
  refine ACall_is hmv1 ?_
  cases hok : vsOk (m.verts.map (·.add d))
  · simp [go_sem, noMesh]
    refine ACall_is ht1 ?_
    simp [go_sem, hwn, hwn2]
    refine ACall_is ht2 ?_
    simp [go_sem]
    refine ACall_is hi1 ?_
    simp [go_sem]
    refine ACall_is hi2 ?_
    simp [go_sem]
    refine ACall_is hs1 ?_
    simp [go_sem]
    refine ACall_is hs1 ?_
    simp [go_sem]
    refine DCall_is hvt ?_
    simp [go_sem]
    refine DCall_is hvm ?_
    simp [go_sem]
    refine DCall_is hvi ?_
    simp [go_sem]
    refine DCall_is hvm ?_
    simp [go_sem]
    refine DCall_is ha ?_
    simp [go_sem, law13_ShapesBack.r]
  · rw [hback hok] at hmv2
    simp [go_sem, mesV, Mesh.enc, Mesh.cs] at hmv2 ⊢
    refine ACall_is hmv2 ?_
    simp [go_sem]
    refine DCall_is hs1 ?_
    simp [go_sem]
    refine DCall_is hcl1 ?_
    cases hcc : m.closed
    · simp [go_sem, Sg_skip2, NewOk, I.news]
      refine ACall_is ht1 ?_
      simp [go_sem, hwn, hwn2]
      refine ACall_is ht2 ?_
      simp [go_sem]
      refine ACall_is hi1 ?_
      simp [go_sem]
      refine ACall_is hi2 ?_
      simp [go_sem]
      refine ACall_is hs1 ?_
      simp [go_sem]
      refine ACall_is hs1 ?_
      simp [go_sem]
      refine DCall_is hvt ?_
      simp [go_sem]
      refine DCall_is hvm ?_
      simp [go_sem]
      refine DCall_is hvi ?_
      simp [go_sem]
      refine DCall_is hvm ?_
      simp [go_sem]
      refine DCall_is ha ?_
      simp [go_sem, law13_ShapesBack.r]
    · rw [hvol hcc hok] at hva
      simp [go_sem]
      refine DCall_is hva ?_
      simp [go_sem]
      refine DCall_is hvm ?_
      simp [go_sem]
      refine ACall_is ht1 ?_
      simp [go_sem, hwn, hwn2]
      refine ACall_is ht2 ?_
      simp [go_sem]
      refine ACall_is hi1 ?_
      simp [go_sem]
      refine ACall_is hi2 ?_
      simp [go_sem]
      refine ACall_is hs1 ?_
      simp [go_sem]
      refine ACall_is hs1 ?_
      simp [go_sem]
      refine DCall_is hvt ?_
      simp [go_sem]
      refine DCall_is hvm ?_
      simp [go_sem]
      refine DCall_is hvi ?_
      simp [go_sem]
      refine DCall_is hvm ?_
      simp [go_sem]
      refine DCall_is ha ?_
      simp [go_sem, law13_ShapesBack.r]
end
end Go.Abs
