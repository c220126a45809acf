/- Part of the library on which the proof stands: an abstract machine, its values and its soundness against the model; or what functions of the program do to such values. -/
import Derived.Test.YtoppidobgkgiiaaGoShpB
import Derived.Test.YtoppidobgkgiiaaGoShp
import Derived.Test.YtoppidobgkgiiaaGoOriB
import Derived.Test.YtoppidobgkgiiaaGoShpM
set_option linter.unusedVariables false
set_option linter.unusedSimpArgs false
namespace Go.Abs

def SmallVC (P : Program) (f : FuncId) : Prop := ∀ v : V3, CallIs P f [v.enc] (.b (v.within 131072))
def CrossVC (P : Program) (f : FuncId) : Prop := ∀ b c : V3, b.valid = true → c.valid = true → CallIs P f [b.enc, c.enc] (crs b c).enc
def DotVC (P : Program) (f : FuncId) : Prop := ∀ a b : V3, a.valid = true → b.within 8589934592 = true → CallIs P f [a.enc, b.enc] (.i .i64 (dot3 a b))
theorem valid_small {v : V3} (h : v.valid = true) : v.within 131072 = true := by
  have := V3.valid_iff.1 h
  simp [V3.within]; omega
theorem within_mono {v : V3} {a b : Int} (hab : a ≤ b) (h : v.within a = true) : v.within b = true := by
  simp [V3.within] at h ⊢; omega
theorem crs_within {b c : V3} (hb : b.valid = true) (hc : c.valid = true) : (crs b c).within 8589934592 = true := by
  have := crs_b hb hc
  simp [V3.within]; omega

section
variable {P : Program} (hm : P.follows .mixedOrders = true)
include hm

theorem vec_small_ok {f fw : FuncId} (hf : FnOk P f (vec_small.c fw) vec_small.r vec_small.n) (hw : WithinC P fw) : SmallVC P f := by
  intro v
  refine PureC.is (pure_of hm hf (Nat.le_of_ble_eq_true rfl) ?_) rfl
  unfold vec_small.c
  simp [go_sem, V3.enc, V3.cs]
  refine ACall_is ((hw v 131072 (by omega) (by omega)).is rfl) ?_
  simp [go_sem, vec_small.r]

set_option maxHeartbeats 4000000 in
theorem vec_Cross_ok {f fs : FuncId} (hf : FnOk P f (vec_Cross.c fs) vec_Cross.r vec_Cross.n) (hs : SmallVC P fs) : CrossVC P f := by
  intro b c hb hc
  refine PureC.is (pure_of hm hf (Nat.le_of_ble_eq_true rfl) ?_) rfl
  unfold vec_Cross.c
  have h1 := hs b
  have h2 := hs c
  rw [valid_small hb] at h1
  rw [valid_small hc] at h2
  obtain ⟨b1, b2, b3, b4, b5, b6⟩ := V3.valid_iff.1 hb
  obtain ⟨c1, c2, c3, c4, c5, c6⟩ := V3.valid_iff.1 hc
  have m1 := mul16 b3 b4 c5 c6
  have m2 := mul16 b5 b6 c3 c4
  have m3 := mul16 b5 b6 c1 c2
  have m4 := mul16 b1 b2 c5 c6
  have m5 := mul16 b1 b2 c3 c4
  have m6 := mul16 b3 b4 c1 c2
  have hcr : crs b c = ⟨b.y * c.z - b.z * c.y, b.z * c.x - b.x * c.z, b.x * c.y - b.y * c.x⟩ := rfl
  rw [hcr]
  simp [go_sem, V3.enc, V3.cs] at h1 h2 ⊢
  refine ACall_is h1 ?_
  simp [go_sem]
  refine ACall_is h2 ?_
  simp (disch := omega) [go_sem, wrap64_small, vec_Cross.r]

set_option maxHeartbeats 4000000 in
theorem vec_Dot_ok {f fs fw : FuncId} (hf : FnOk P f (vec_Dot.c fs fw) vec_Dot.r vec_Dot.n) (hs : SmallVC P fs) (hw : WithinC P fw) : DotVC P f := by
  intro a b ha hb
  refine PureC.is (pure_of hm hf (Nat.le_of_ble_eq_true rfl) ?_) rfl
  unfold vec_Dot.c
  have h1 := hs a
  have h2 := (hw b 1099511627776 (by omega) (by omega)).is rfl
  rw [valid_small ha] at h1
  rw [within_mono (by omega) hb] at h2
  obtain ⟨b1, b2, b3, b4, b5, b6⟩ := V3.valid_iff.1 ha
  simp only [V3.within, Bool.and_eq_true, decide_eq_true_eq] at hb
  obtain ⟨⟨⟨⟨⟨c1, c2⟩, c3⟩, c4⟩, c5⟩, c6⟩ := hb
  have m1 := mulB b1 b2 c1 c2
  have m2 := mulB b3 b4 c3 c4
  have m3 := mulB b5 b6 c5 c6
  have hd : dot3 a b = a.x * b.x + a.y * b.y + a.z * b.z := rfl
  rw [hd]
  simp [go_sem, V3.enc, V3.cs] at h1 h2 ⊢
  refine ACall_is h1 ?_
  simp [go_sem]
  refine ACall_is h2 ?_
  simp (disch := omega) [go_sem, wrap64_small, vec_Dot.r]

theorem vec_Det_ok {f fs fc fd : FuncId} (hf : FnOk P f (vec_Det.c fs fc fd) vec_Det.r vec_Det.n) (hs : SmallVC P fs) (hc : CrossVC P fc) (hd : DotVC P fd) : DetC P f := by
  intro x y z hx hy hz
  refine PureC.is (pure_of hm hf (Nat.le_of_ble_eq_true rfl) ?_) rfl
  unfold vec_Det.c
  have h1 := hs y
  have h2 := hs z
  rw [valid_small hy] at h1
  rw [valid_small hz] at h2
  simp [go_sem, V3.enc, V3.cs] at h1 h2 ⊢
  refine ACall_is h1 ?_
  simp [go_sem]
  refine ACall_is h2 ?_
  simp [go_sem]
  refine DCall_is (hc y z hy hz) ?_
  simp [go_sem]
  refine DCall_is (hd x (crs y z) hx (crs_within hy hz)) ?_
  simp [go_sem, vec_Det.r, det3]

set_option maxHeartbeats 4000000 in
theorem mesh_Volume6_ok {f fc fd : FuncId} (hf : FnOk P f (mesh_Volume6.c fc fd) mesh_Volume6.r mesh_Volume6.n) (hc : CheckC P fc) (hd : DetC P fd) : VolC P f := by
  intro m
  refine PureC.is (pure_of hm hf (Nat.le_of_ble_eq_true rfl) ?_) rfl
  unfold mesh_Volume6.c
  have hv : m.vol6 = if m.check = 0 then volL m.verts m.tris else 0 := rfl
  by_cases hz : m.check = 0
  case neg =>
    rw [hv, if_neg hz]
    simp [go_sem, Mesh.enc, Mesh.cs]
    refine ACall_is (hc m) ?_
    simp [go_sem, hz, mesh_Volume6.r]
  rw [hv, if_pos hz]
  obtain ⟨z1, z2, z3, z4⟩ := Mesh.check_zero.1 hz
  simp [go_sem, Mesh.enc, Mesh.cs]
  refine ACall_is (hc m) ?_
  simp [go_sem, hz, vsV, tsV]
  refine AS_loop (α := Nat) (fun k => k ≤ m.tris.length)
    (fun k => ⟨[(1, .p 0 1 0 0), (3, .i .i64 (volL m.verts (m.tris.take k))), (10, tsV m.tris), (11, .i .i64 m.tris.length), (12, .i .i64 k)], [.arr 1 2 [m.cs]]⟩)
    (fun k => m.tris.length - k) 0 (Nat.zero_le _) ?_ ?_
  · simp [go_sem, Mesh.cs, vsV, tsV, volL_nil]
  · intro k hk
    by_cases hkl : k = m.tris.length
    · subst hkl
      rw [List.take_length]
      simp [go_sem, Mesh.cs, vsV, tsV, mesh_Volume6.r]
    · have hlt : k < m.tris.length := by omega
      have hp : m.tris[k]? = some m.tris[k] := List.getElem?_eq_getElem hlt
      generalize m.tris[k] = t at hp
      obtain ⟨_, hp'⟩ := List.getElem?_eq_some_iff.1 hp
      have hok := tsOk_get z4 hp
      obtain ⟨a1, a2, b1, b2, c1, c2⟩ := T3.ok_iff.1 hok
      have ga := vAt_get a1 a2
      have gb := vAt_get b1 b2
      have gc := vAt_get c1 c2
      have va := vAt_valid z3 a1 a2
      have vb := vAt_valid z3 b1 b2
      have vc := vAt_valid z3 c1 c2
      have hb1 := volL_b z3 (ts := m.tris.take k) (by
        simp only [tsOk, List.all_eq_true] at z4 ⊢
        exact fun x hx => z4 x (List.mem_of_mem_take hx))
      have hb2 := volT_b z3 hok
      have hln : ((m.tris.take k).length : Int) ≤ 4096 := by rw [List.length_take]; omega
      have hs : volL m.verts (m.tris.take (k + 1)) = volL m.verts (m.tris.take k) + volT m.verts t := by
        rw [List.take_add_one, hp, volL_app, Option.toList_some, volL_cons, volL_nil]; omega
      have hvt : volT m.verts t = det3 (vAt m.verts t.a) (vAt m.verts t.b) (vAt m.verts t.c) := rfl
      have hdd := hd _ _ _ va vb vc
      rw [← hvt] at hdd
      clear hvt
      generalize vAt m.verts t.a = A at *
      generalize vAt m.verts t.b = B at *
      generalize vAt m.verts t.c = C at *
      generalize volL m.verts (m.tris.take k) = S at *
      generalize volT m.verts t = T at *
      obtain ⟨ia, ga'⟩ := List.getElem?_eq_some_iff.1 ga
      obtain ⟨ib, gb'⟩ := List.getElem?_eq_some_iff.1 gb
      obtain ⟨ic, gc'⟩ := List.getElem?_eq_some_iff.1 gc
      simp [go_sem, Mesh.cs, vsV, tsV, hlt, hp, hp', tcs, a1, b1, c1, ga, gb, gc, ia, ib, ic, ga', gb', gc', vcs]
      simp [go_sem, V3.enc, vcs] at hdd
      refine DCall_is hdd ?_
      simp (disch := omega) [go_sem, wrap64_small]
      refine ⟨k + 1, by omega, by omega, ?_⟩
      exact ⟨hs.symm, by omega⟩
end
end Go.Abs
set_option linter.unusedVariables false
set_option linter.unusedSimpArgs false
namespace Go.Abs

def smallP (l : List P2) : Prop := ∀ i, i < l.length → -65536 ≤ (pt l i).x ∧ (pt l i).x ≤ 65536 ∧ -65536 ≤ (pt l i).y ∧ (pt l i).y ≤ 65536
def Area2C (P : Program) (f : FuncId) : Prop := ∀ l : List P2, l.length ≤ 100 → smallP l → CallIs P f [psV l] (.i .i64 (arK l l.length))
def SoundC (P : Program) (f : FuncId) : Prop := ∀ (m : Mesh) (v : Int), m.closed = true → m.coh = true → m.shells.length = 1 → m.euler = 2 → m.vol6 = v → 0 < v → CallIs P f [m.enc, .i .i64 v] (.b true)
theorem cr_b {p q : P2} (hp : -65536 ≤ p.x ∧ p.x ≤ 65536 ∧ -65536 ≤ p.y ∧ p.y ≤ 65536) (hq : -65536 ≤ q.x ∧ q.x ≤ 65536 ∧ -65536 ≤ q.y ∧ q.y ≤ 65536) :
    (-4294967296 ≤ p.x * q.y ∧ p.x * q.y ≤ 4294967296) ∧ (-4294967296 ≤ p.y * q.x ∧ p.y * q.x ≤ 4294967296) :=
  ⟨mul16 hp.1 hp.2.1 hq.2.2.1 hq.2.2.2, mul16 hp.2.2.1 hp.2.2.2 hq.1 hq.2.1⟩
theorem nx_in {n i : Nat} (h : i < n) : nx n i < n := by unfold nx; split <;> omega
theorem arK_b {l : List P2} (hs : smallP l) : ∀ m, m ≤ l.length → -8589934592 * (m : Int) ≤ arK l m ∧ arK l m ≤ 8589934592 * (m : Int)
  | 0, _ => by rw [show arK l 0 = 0 from rfl]; omega
  | m + 1, hm => by
    have h1 := arK_b hs m (by omega)
    have h2 := cr_b (hs m (by omega)) (hs _ (nx_in (show m < l.length by omega)))
    rw [arK_succ]
    unfold cr
    omega
theorem small_of {l : List P2} {z : Int} {r : List V3} (hv : vsOk (levelVs l z ++ r) = true) : smallP l := by
  intro i hi
  have h1 : (levelVs l z ++ r)[i]? = some (lev (pt l i) z) := by rw [List.getElem?_append_left (by rw [levelVs_len]; exact hi), lev_at hi]
  have := V3.valid_iff.1 (vsOk_get hv h1)
  simp only [lev] at this
  omega
theorem z_of {l : List P2} {z : Int} {r : List V3} (h3 : 3 ≤ l.length) (hv : vsOk (levelVs l z ++ r) = true) : -65536 ≤ z ∧ z ≤ 65536 := by
  have h1 : (levelVs l z ++ r)[0]? = some (lev (pt l 0) z) := by rw [List.getElem?_append_left (by rw [levelVs_len]; omega), lev_at (by omega)]
  have := V3.valid_iff.1 (vsOk_get hv h1)
  simp only [lev] at this
  omega
/-- What is said of a solid. -/
structure SoundM (m : Mesh) (v : Int) : Prop where
  a : m.closed = true
  b : m.coh = true
  c : m.shells.length = 1
  d : m.euler = 2
  e : m.vol6 = v
  f : 0 < v
theorem sound_of {m : Mesh} {v : Int} (hv : vsOk m.verts = true) (h : Sphere m.tris m.verts.length) (hl : m.verts.length ≤ 200) (he : volL m.verts m.tris = v) (hp : 0 < v) : SoundM m v := by
  have hn := h.num
  have hz : m.check = 0 := Mesh.check_zero.2 ⟨by omega, by omega, hv, h.ok⟩
  obtain ⟨a, b, c, d⟩ := h.all hz
  exact ⟨a, b, c, d, by unfold Mesh.vol6; rw [if_pos hz, he], hp⟩
theorem box_sound {p s : V3} (h1 : 1 ≤ s.x) (h2 : 1 ≤ s.y) (h3 : 1 ≤ s.z) (hp : p.valid = true) (hs : (p.add s).valid = true) : SoundM ⟨boxVerts p s, boxTris⟩ (6 * s.x * s.y * s.z) := by
  have q1 := V3.valid_iff.1 hp
  have q2 := V3.valid_iff.1 hs
  simp only [V3.add] at q2
  refine sound_of ?_ box_sphere (by simp [boxVerts]) (vol_box p s) ?_
  · simp only [vsOk, boxVerts, List.all_cons, List.all_nil, Bool.and_true, Bool.and_eq_true]
    refine ⟨?_, ?_, ?_, ?_, ?_, ?_, ?_, ?_⟩ <;> rw [V3.valid_iff] <;> simp only <;> omega
  · have a1 := Int.mul_pos (show (0 : Int) < 6 * s.x by omega) (show (0 : Int) < s.y by omega)
    exact Int.mul_pos a1 (by omega)
theorem prism_sound {l : List P2} {z h : Int} (h3 : 3 ≤ l.length) (h64 : l.length ≤ 64) (hh : 1 ≤ h) (hv : vsOk (prismMesh l z h).verts = true) (hc : convexB l = true) : SoundM (prismMesh l z h) (3 * arK l l.length * h) := by
  have hvl : (prismMesh l z h).verts.length = 2 * l.length := by unfold prismMesh; simp only [List.length_append, levelVs_len]; omega
  refine sound_of hv ?_ (by omega) (vol_prism h3) ?_
  · rw [hvl]; exact pr_sphere h3
  · have := ar_pos h3 hc
    exact Int.mul_pos (by omega) (by omega)
theorem pyr_sound {l : List P2} {z : Int} {a : V3} (h3 : 3 ≤ l.length) (h64 : l.length ≤ 64) (hh : z < a.z) (hv : vsOk (pyrMesh l z a).verts = true) (hc : convexB l = true) : SoundM (pyrMesh l z a) (arK l l.length * (a.z - z)) := by
  have hvl : (pyrMesh l z a).verts.length = l.length + 1 := by unfold pyrMesh; simp only [List.length_append, levelVs_len, List.length_cons, List.length_nil]
  refine sound_of hv ?_ (by omega) (vol_pyr h3) ?_
  · rw [hvl]; exact py_sphere h3
  · exact Int.mul_pos (ar_pos h3 hc) (by omega)

theorem Sg_skip3 {P : Program} {n0 : Nat} {js : List Nat} {lg : List (List Nat × List Nat)} {f : FuncId} {args : List A} {b : Bool} {env : List (Nat × V)} {h : List O} {K : List Nat × List Nat → V → List O → Prop} : Sg P n0 js lg (.call f args) (.t []) b env h K = K ([], []) (.t []) h := _root_.id rfl

section
variable {P : Program} (hm : P.follows .mixedOrders = true)
include hm

set_option maxHeartbeats 4000000 in
theorem planar_Area2_ok {f fv : FuncId} (hf : FnOk P f (planar_Area2.c fv) planar_Area2.r planar_Area2.n) (hv : PValidC P fv) : Area2C P f := by
  intro l hl hs
  refine PureC.is (pure_of hm hf (Nat.le_of_ble_eq_true rfl) ?_) rfl
  unfold planar_Area2.c
  simp (disch := omega) [go_sem, psV, show ¬ ((8192 : Int) < l.length) by omega]
  refine AS_loop (α := Nat) (fun k => k ≤ l.length)
    (fun k => ⟨[(0, psV l), (3, .i .i64 (arK l k)), (10, psV l), (11, .i .i64 l.length), (12, .i .i64 k)], []⟩)
    (fun k => l.length - k) 0 (Nat.zero_le _) ?_ ?_
  · simp [go_sem, psV, arK]
  · intro k hk
    by_cases hkl : k = l.length
    · subst hkl
      simp [go_sem, psV, planar_Area2.r]
    · have hlt : k < l.length := by omega
      have hx := nx_in hlt
      have hp : l[k]? = some (pt l k) := by unfold pt; rw [List.getD_eq_getElem?_getD, List.getElem?_eq_getElem hlt]; rfl
      have hq : l[nx l.length k]? = some (pt l (nx l.length k)) := by unfold pt; rw [List.getD_eq_getElem?_getD, List.getElem?_eq_getElem hx]; rfl
      have hrem : ((k : Int) + 1).tmod (l.length : Int) = ((nx l.length k : Nat) : Int) := by
        rw [Int.tmod_eq_emod_of_nonneg (by omega), ← nx_mod hlt]; simp
      have hb := arK_b hs k (by omega)
      have hc := cr_b (hs k hlt) (hs _ hx)
      have hsu := arK_succ l k
      have hpv := hs k hlt
      generalize pt l (nx l.length k) = q at hq hc hsu
      generalize pt l k = p at hp hc hsu hpv
      obtain ⟨_, hp'⟩ := List.getElem?_eq_some_iff.1 hp
      obtain ⟨_, hq'⟩ := List.getElem?_eq_some_iff.1 hq
      have hv1 := hv p
      have hpv2 : p.valid = true := P2.valid_iff.2 (by omega)
      rw [hpv2] at hv1
      simp only [P2.enc, P2.cs] at hv1
      have hcr : cr p q = p.x * q.y - p.y * q.x := rfl
      rw [hcr] at hsu
      generalize arK l k = A at *
      generalize nx l.length k = j at *
      have hl0 : ¬ l = [] := by rintro rfl; simp at hlt
      simp (disch := omega) [go_sem, psV, hlt, hp, hp', hq, hq', hx, hrem, hl0, pcs, wrap64_small]
      refine ACall_is hv1 ?_
      simp (disch := omega) [go_sem, psV, pcs, wrap64_small]
      exact ⟨k + 1, by omega, by omega, by omega, by omega⟩

theorem law13_sound_ok {f fc fo fs fe fv : FuncId} (hf : FnOk P f (law13_sound.c fc fo fs fe fv) law13_sound.r law13_sound.n) (hc : ClosedC P fc) (ho : CoherentC P fo) (hs : ShellsC P fs) (he : EulerC P fe) (hv : VolC P fv) : SoundC P f := by
  intro m v a b c d e g
  refine PureC.is (pure_of hm hf (Nat.le_of_ble_eq_true rfl) ?_) rfl
  unfold law13_sound.c
  have h1 := hc m
  have h2 := ho m
  have h3 := hs m
  have h4 := he m
  have h5 := hv m
  rw [a] at h1
  rw [b] at h2
  rw [d] at h4
  rw [e] at h5
  simp only [Mesh.enc, Mesh.cs] at h1 h2 h3 h4 h5
  simp [go_sem, Mesh.enc, Mesh.cs]
  refine ACall_is h1 ?_
  simp [go_sem]
  refine ACall_is h2 ?_
  simp [go_sem]
  refine ACall_is h3 ?_
  simp [go_sem, lsV, c]
  refine ACall_is h4 ?_
  simp [go_sem]
  refine ACall_is h5 ?_
  simp [go_sem, law13_sound.r, g]

set_option maxRecDepth 20000 in
set_option maxHeartbeats 8000000 in
theorem ShapesSound_ok {f fcut fb fp fy fs fa2 fa : FuncId} (hf : FnOk P f (law13_ShapesSound.c fcut fb fp fy fs fa2 fa) law13_ShapesSound.r law13_ShapesSound.n)
    (hcut : CutC P fcut) (hb : BoxC P fb) (hp : PrismC P fp) (hy : PyrC P fy) (hs : SoundC P fs) (ha2 : Area2C P fa2) (ha : AwakeC P fa) (x : SolidIn) (h1 : inI x.z = true) (h2 : inI x.h = true) (h3 : x.at'.inR = true) (h4 : x.size.inR = true) :
    PureC P f [x.enc] (· = .b true) := by
  obtain ⟨l, hll⟩ : ∃ l, l = x.base.take 100 := ⟨_, rfl⟩
  have hl : l.length ≤ 100 := by rw [hll]; simp; omega
  have hcut1 := hcut x.base
  rw [← hll] at hcut1
  have hb1 := hb x.at' x.size h3 h4
  have hp1 := hp l x.z x.h (by omega) h1 h2
  have hy1 := hy l x.z x.apex (by omega)
  -- what the box is
  have hbox : (∃ e, e ≠ 0 ∧ boxV x.at' x.size = mesV noMesh e) ∨ (boxV x.at' x.size = mesV ⟨boxVerts x.at' x.size, boxTris⟩ 0 ∧ SoundM ⟨boxVerts x.at' x.size, boxTris⟩ (6 * x.size.x * x.size.y * x.size.z) ∧ (1 ≤ x.size.x ∧ x.size.x ≤ 131072) ∧ (1 ≤ x.size.y ∧ x.size.y ≤ 131072) ∧ (1 ≤ x.size.z ∧ x.size.z ≤ 131072)) := by
    unfold boxV
    split
    · exact .inl ⟨1, by omega, rfl⟩
    · rename_i hn
      split
      · rename_i hv
        have q1 := V3.valid_iff.1 hv.1
        have q2 := V3.valid_iff.1 hv.2
        simp only [V3.add] at q2
        exact .inr ⟨rfl, box_sound (by omega) (by omega) (by omega) hv.1 hv.2, by omega, by omega, by omega⟩
      · exact .inl ⟨8, by omega, rfl⟩
  have hpr : (∃ e, e ≠ 0 ∧ prismV l x.z x.h = mesV noMesh e) ∨ (prismV l x.z x.h = mesV (prismMesh l x.z x.h) 0 ∧ SoundM (prismMesh l x.z x.h) (3 * arK l l.length * x.h) ∧ 3 ≤ l.length ∧ l.length ≤ 64 ∧ smallP l ∧ 1 ≤ x.h ∧ x.h ≤ 131072) := by
    unfold prismV
    split
    · exact .inl ⟨1, by omega, rfl⟩
    · rename_i hn
      unfold solidV
      split
      · exact .inl ⟨8, by omega, rfl⟩
      · rename_i hv
        split
        · exact .inl ⟨1, by omega, rfl⟩
        · rename_i hc
          have hv' : vsOk (prismMesh l x.z x.h).verts = true := by simpa using hv
          have hz1 := z_of (l := l) (z := x.z) (r := levelVs l (x.z + x.h)) (by omega) hv'
          have hz2 : -65536 ≤ x.z + x.h ∧ x.z + x.h ≤ 65536 := by
            have hg : (levelVs l x.z ++ levelVs l (x.z + x.h))[l.length]? = some (lev (pt l 0) (x.z + x.h)) := by
              rw [List.getElem?_append_right (by rw [levelVs_len]; omega), levelVs_len, Nat.sub_self, lev_at (by omega)]
            have := V3.valid_iff.1 (vsOk_get hv' hg)
            simp only [lev] at this
            omega
          exact .inr ⟨rfl, prism_sound (by omega) (by omega) (by omega) hv' (by simpa using hc), by omega, by omega, small_of (z := x.z) (r := levelVs l (x.z + x.h)) hv', by omega, by omega⟩
  have hpy : (∃ e, e ≠ 0 ∧ pyrV l x.z x.apex = mesV noMesh e) ∨ (pyrV l x.z x.apex = mesV (pyrMesh l x.z x.apex) 0 ∧ SoundM (pyrMesh l x.z x.apex) (arK l l.length * (x.apex.z - x.z)) ∧ 3 ≤ l.length ∧ l.length ≤ 64 ∧ smallP l ∧ x.z < x.apex.z ∧ x.apex.z ≤ 65536 ∧ -65536 ≤ x.z) := by
    unfold pyrV
    split
    · exact .inl ⟨1, by omega, rfl⟩
    · rename_i hn
      unfold solidV
      split
      · exact .inl ⟨8, by omega, rfl⟩
      · rename_i hv
        split
        · exact .inl ⟨1, by omega, rfl⟩
        · rename_i hc
          have hv' : vsOk (pyrMesh l x.z x.apex).verts = true := by simpa using hv
          have hz1 := z_of (l := l) (z := x.z) (r := [x.apex]) (by omega) hv'
          have hz2 : x.apex.valid = true := by
            have hg : (levelVs l x.z ++ [x.apex])[l.length]? = some x.apex := by
              rw [List.getElem?_append_right (by rw [levelVs_len]; omega), levelVs_len, Nat.sub_self]; rfl
            exact vsOk_get hv' hg
          have := V3.valid_iff.1 hz2
          exact .inr ⟨rfl, pyr_sound (by omega) (by omega) (by omega) hv' (by simpa using hc), by omega, by omega, small_of (z := x.z) (r := [x.apex]) hv', by omega, by omega, by omega⟩
  obtain ⟨mb, eb, hbv, hbs⟩ : ∃ mb eb, boxV x.at' x.size = mesV mb eb ∧ (eb = 0 → SoundM mb (6 * x.size.x * x.size.y * x.size.z) ∧ (1 ≤ x.size.x ∧ x.size.x ≤ 131072) ∧ (1 ≤ x.size.y ∧ x.size.y ≤ 131072) ∧ (1 ≤ x.size.z ∧ x.size.z ≤ 131072)) := by
    rcases hbox with ⟨e, he, h⟩ | ⟨h, h'⟩
    · exact ⟨_, e, h, fun hh => absurd hh he⟩
    · exact ⟨_, 0, h, fun _ => h'⟩
  obtain ⟨mp, ep, hpv, hps⟩ : ∃ mp ep, prismV l x.z x.h = mesV mp ep ∧ (ep = 0 → SoundM mp (3 * arK l l.length * x.h) ∧ 3 ≤ l.length ∧ l.length ≤ 64 ∧ smallP l ∧ 1 ≤ x.h ∧ x.h ≤ 131072) := by
    rcases hpr with ⟨e, he, h⟩ | ⟨h, h'⟩
    · exact ⟨_, e, h, fun hh => absurd hh he⟩
    · exact ⟨_, 0, h, fun _ => h'⟩
  obtain ⟨my, ey, hyv, hys⟩ : ∃ my ey, pyrV l x.z x.apex = mesV my ey ∧ (ey = 0 → SoundM my (arK l l.length * (x.apex.z - x.z)) ∧ 3 ≤ l.length ∧ l.length ≤ 64 ∧ smallP l ∧ x.z < x.apex.z ∧ x.apex.z ≤ 65536 ∧ -65536 ≤ x.z) := by
    rcases hpy with ⟨e, he, h⟩ | ⟨h, h'⟩
    · exact ⟨_, e, h, fun hh => absurd hh he⟩
    · exact ⟨_, 0, h, fun _ => h'⟩
  clear hbox hpr hpy
  rw [hbv] at hb1
  rw [hpv] at hp1
  rw [hyv] at hy1
  have hsb : eb = 0 → CallIs P fs [mb.enc, .i .i64 (6 * x.size.x * x.size.y * x.size.z)] (.b true) := fun h => by
    obtain ⟨⟨a, b, c, d, e, g⟩, _⟩ := hbs h
    exact hs mb _ a b c d e g
  have hsp : ep = 0 → CallIs P fs [mp.enc, .i .i64 (3 * arK l l.length * x.h)] (.b true) := fun h => by
    obtain ⟨⟨a, b, c, d, e, g⟩, _⟩ := hps h
    exact hs mp _ a b c d e g
  have hsy : ey = 0 → CallIs P fs [my.enc, .i .i64 (arK l l.length * (x.apex.z - x.z))] (.b true) := fun h => by
    obtain ⟨⟨a, b, c, d, e, g⟩, _⟩ := hys h
    exact hs my _ a b c d e g
  have hap : ep = 0 → CallIs P fa2 [psV l] (.i .i64 (arK l l.length)) := fun h => ha2 l hl (hps h).2.2.2.1
  have hay : ey = 0 → CallIs P fa2 [psV l] (.i .i64 (arK l l.length)) := fun h => ha2 l hl (hys h).2.2.2.1
  have bb : eb = 0 → (IntKind.i64.wrap (6 * x.size.x) = 6 * x.size.x) ∧ IntKind.i64.wrap (6 * x.size.x * x.size.y) = 6 * x.size.x * x.size.y ∧ IntKind.i64.wrap (6 * x.size.x * x.size.y * x.size.z) = 6 * x.size.x * x.size.y * x.size.z := fun h => by
    obtain ⟨_, b1, b2, b3⟩ := hbs h
    have q1 := mulB (x := 6 * x.size.x) (y := x.size.y) (A := 786432) (B := 131072) (by omega) (by omega) (by omega) (by omega)
    have q2 := mulB (x := 6 * x.size.x * x.size.y) (y := x.size.z) (A := 786432 * 131072) (B := 131072) q1.1 q1.2 (by omega) (by omega)
    exact ⟨wrap64_small (by omega) (by omega), wrap64_small (by omega) (by omega), wrap64_small (by omega) (by omega)⟩
  have bp : ep = 0 → (IntKind.i64.wrap (3 * arK l l.length) = 3 * arK l l.length) ∧ IntKind.i64.wrap (3 * arK l l.length * x.h) = 3 * arK l l.length * x.h := fun h => by
    obtain ⟨_, _, _, b1, b2, b3⟩ := hps h
    have q0 := arK_b b1 l.length (Nat.le_refl _)
    have q1 := mulB (x := 3 * arK l l.length) (y := x.h) (A := 3 * 858993459200) (B := 131072) (by omega) (by omega) (by omega) (by omega)
    exact ⟨wrap64_small (by omega) (by omega), wrap64_small (by omega) (by omega)⟩
  have byy : ey = 0 → (IntKind.i64.wrap (x.apex.z - x.z) = x.apex.z - x.z) ∧ IntKind.i64.wrap (arK l l.length * (x.apex.z - x.z)) = arK l l.length * (x.apex.z - x.z) := fun h => by
    obtain ⟨_, _, _, b1, b2, b3, b4⟩ := hys h
    have q0 := arK_b b1 l.length (Nat.le_refl _)
    have q1 := mulB (x := arK l l.length) (y := x.apex.z - x.z) (A := 858993459200) (B := 131072) (by omega) (by omega) (by omega) (by omega)
    exact ⟨wrap64_small (by omega) (by omega), wrap64_small (by omega) (by omega)⟩
  clear hbs hps hys hbv hpv hyv
  generalize arK l l.length = A at *
  refine pure_of hm hf (Nat.le_of_ble_eq_true rfl) ?_
  unfold law13_ShapesSound.c
  simp only [V3.enc, V3.cs] at hb1 hy1
  simp only [Mesh.enc, Mesh.cs] at hsb hsp hsy
  simp [go_sem, SolidIn.enc, SolidIn.cs]
  refine ACall_is hcut1 ?_
  simp [go_sem]
  refine ACall_is hb1 ?_
  simp [go_sem, mesV, Mesh.enc, Mesh.cs]
  refine ACall_is hp1 ?_
  simp [go_sem, mesV, Mesh.enc, Mesh.cs]
  refine ACall_is hy1 ?_
  by_cases hb0 : eb = 0
  · have eb0 : (eb == 0) = true := by simpa using hb0
    by_cases hp0 : ep = 0
    · have ep0 : (ep == 0) = true := by simpa using hp0
      by_cases hy0 : ey = 0
      · have ey0 : (ey == 0) = true := by simpa using hy0
        have ey1 : (ey != 0) = false := by simpa using hy0
        obtain ⟨w1, w2, w3⟩ := bb hb0
        obtain ⟨w4, w5⟩ := bp hp0
        obtain ⟨w6, w7⟩ := byy hy0
        simp [go_sem, mesV, Mesh.enc, Mesh.cs, eb0, ep0, ey0, ey1, w1, w2, w3, w4, w5, w6, w7, Sg_skip3, NewOk, I.news]
        refine ACall_is (hsb hb0) ?_
        simp [go_sem, mesV, Mesh.enc, Mesh.cs, eb0, ep0, ey0, ey1, w1, w2, w3, w4, w5, w6, w7, Sg_skip3, NewOk, I.news]
        refine DCall_is (hap hp0) ?_
        simp [go_sem, mesV, Mesh.enc, Mesh.cs, eb0, ep0, ey0, ey1, w1, w2, w3, w4, w5, w6, w7, Sg_skip3, NewOk, I.news]
        refine DCall_is (hsp hp0) ?_
        simp [go_sem, mesV, Mesh.enc, Mesh.cs, eb0, ep0, ey0, ey1, w1, w2, w3, w4, w5, w6, w7, Sg_skip3, NewOk, I.news]
        refine DCall_is (hay hy0) ?_
        simp [go_sem, mesV, Mesh.enc, Mesh.cs, eb0, ep0, ey0, ey1, w1, w2, w3, w4, w5, w6, w7, Sg_skip3, NewOk, I.news]
        refine DCall_is (hsy hy0) ?_
        simp [go_sem, mesV, Mesh.enc, Mesh.cs, eb0, ep0, ey0, ey1, w1, w2, w3, w4, w5, w6, w7, Sg_skip3, NewOk, I.news]
        refine DCall_is ha ?_
        simp [go_sem, law13_ShapesSound.r]
      · have ey0 : (ey == 0) = false := by simpa using hy0
        have ey1 : (ey != 0) = true := by simpa using hy0
        obtain ⟨w1, w2, w3⟩ := bb hb0
        obtain ⟨w4, w5⟩ := bp hp0
        simp [go_sem, mesV, Mesh.enc, Mesh.cs, eb0, ep0, ey0, ey1, w1, w2, w3, w4, w5, Sg_skip3, NewOk, I.news]
        refine ACall_is (hsb hb0) ?_
        simp [go_sem, mesV, Mesh.enc, Mesh.cs, eb0, ep0, ey0, ey1, w1, w2, w3, w4, w5, Sg_skip3, NewOk, I.news]
        refine DCall_is (hap hp0) ?_
        simp [go_sem, mesV, Mesh.enc, Mesh.cs, eb0, ep0, ey0, ey1, w1, w2, w3, w4, w5, Sg_skip3, NewOk, I.news]
        refine DCall_is (hsp hp0) ?_
        simp [go_sem, mesV, Mesh.enc, Mesh.cs, eb0, ep0, ey0, ey1, w1, w2, w3, w4, w5, Sg_skip3, NewOk, I.news]
        refine DCall_is ha ?_
        simp [go_sem, law13_ShapesSound.r]
    · have ep0 : (ep == 0) = false := by simpa using hp0
      by_cases hy0 : ey = 0
      · have ey0 : (ey == 0) = true := by simpa using hy0
        have ey1 : (ey != 0) = false := by simpa using hy0
        obtain ⟨w1, w2, w3⟩ := bb hb0
        obtain ⟨w6, w7⟩ := byy hy0
        simp [go_sem, mesV, Mesh.enc, Mesh.cs, eb0, ep0, ey0, ey1, w1, w2, w3, w6, w7, Sg_skip3, NewOk, I.news]
        refine ACall_is (hsb hb0) ?_
        simp [go_sem, mesV, Mesh.enc, Mesh.cs, eb0, ep0, ey0, ey1, w1, w2, w3, w6, w7, Sg_skip3, NewOk, I.news]
        refine DCall_is (hay hy0) ?_
        simp [go_sem, mesV, Mesh.enc, Mesh.cs, eb0, ep0, ey0, ey1, w1, w2, w3, w6, w7, Sg_skip3, NewOk, I.news]
        refine DCall_is (hsy hy0) ?_
        simp [go_sem, mesV, Mesh.enc, Mesh.cs, eb0, ep0, ey0, ey1, w1, w2, w3, w6, w7, Sg_skip3, NewOk, I.news]
        refine DCall_is ha ?_
        simp [go_sem, law13_ShapesSound.r]
      · have ey0 : (ey == 0) = false := by simpa using hy0
        have ey1 : (ey != 0) = true := by simpa using hy0
        obtain ⟨w1, w2, w3⟩ := bb hb0
        simp [go_sem, mesV, Mesh.enc, Mesh.cs, eb0, ep0, ey0, ey1, w1, w2, w3, Sg_skip3, NewOk, I.news]
        refine ACall_is (hsb hb0) ?_
        simp [go_sem, mesV, Mesh.enc, Mesh.cs, eb0, ep0, ey0, ey1, w1, w2, w3, Sg_skip3, NewOk, I.news]
        refine DCall_is ha ?_
        simp [go_sem, law13_ShapesSound.r]
  · have eb0 : (eb == 0) = false := by simpa using hb0
    by_cases hp0 : ep = 0
    · have ep0 : (ep == 0) = true := by simpa using hp0
      by_cases hy0 : ey = 0
      · have ey0 : (ey == 0) = true := by simpa using hy0
        have ey1 : (ey != 0) = false := by simpa using hy0
        obtain ⟨w4, w5⟩ := bp hp0
        obtain ⟨w6, w7⟩ := byy hy0
        simp [go_sem, mesV, Mesh.enc, Mesh.cs, eb0, ep0, ey0, ey1, w4, w5, w6, w7, Sg_skip3, NewOk, I.news]
        refine DCall_is (hap hp0) ?_
        simp [go_sem, mesV, Mesh.enc, Mesh.cs, eb0, ep0, ey0, ey1, w4, w5, w6, w7, Sg_skip3, NewOk, I.news]
        refine DCall_is (hsp hp0) ?_
        simp [go_sem, mesV, Mesh.enc, Mesh.cs, eb0, ep0, ey0, ey1, w4, w5, w6, w7, Sg_skip3, NewOk, I.news]
        refine DCall_is (hay hy0) ?_
        simp [go_sem, mesV, Mesh.enc, Mesh.cs, eb0, ep0, ey0, ey1, w4, w5, w6, w7, Sg_skip3, NewOk, I.news]
        refine DCall_is (hsy hy0) ?_
        simp [go_sem, mesV, Mesh.enc, Mesh.cs, eb0, ep0, ey0, ey1, w4, w5, w6, w7, Sg_skip3, NewOk, I.news]
        refine DCall_is ha ?_
        simp [go_sem, law13_ShapesSound.r]
      · have ey0 : (ey == 0) = false := by simpa using hy0
        have ey1 : (ey != 0) = true := by simpa using hy0
        obtain ⟨w4, w5⟩ := bp hp0
        simp [go_sem, mesV, Mesh.enc, Mesh.cs, eb0, ep0, ey0, ey1, w4, w5, Sg_skip3, NewOk, I.news]
        refine DCall_is (hap hp0) ?_
        simp [go_sem, mesV, Mesh.enc, Mesh.cs, eb0, ep0, ey0, ey1, w4, w5, Sg_skip3, NewOk, I.news]
        refine DCall_is (hsp hp0) ?_
        simp [go_sem, mesV, Mesh.enc, Mesh.cs, eb0, ep0, ey0, ey1, w4, w5, Sg_skip3, NewOk, I.news]
        refine DCall_is ha ?_
        simp [go_sem, law13_ShapesSound.r]
    · have ep0 : (ep == 0) = false := by simpa using hp0
      by_cases hy0 : ey = 0
      · have ey0 : (ey == 0) = true := by simpa using hy0
        have ey1 : (ey != 0) = false := by simpa using hy0
        obtain ⟨w6, w7⟩ := byy hy0
        simp [go_sem, mesV, Mesh.enc, Mesh.cs, eb0, ep0, ey0, ey1, w6, w7, Sg_skip3, NewOk, I.news]
        refine DCall_is (hay hy0) ?_
        simp [go_sem, mesV, Mesh.enc, Mesh.cs, eb0, ep0, ey0, ey1, w6, w7, Sg_skip3, NewOk, I.news]
        refine DCall_is (hsy hy0) ?_
        simp [go_sem, mesV, Mesh.enc, Mesh.cs, eb0, ep0, ey0, ey1, w6, w7, Sg_skip3, NewOk, I.news]
        refine DCall_is ha ?_
        simp [go_sem, law13_ShapesSound.r]
      · have ey0 : (ey == 0) = false := by simpa using hy0
        have ey1 : (ey != 0) = true := by simpa using hy0
        simp [go_sem, mesV, Mesh.enc, Mesh.cs, eb0, ep0, ey0, ey1, Sg_skip3, NewOk, I.news]
        refine DCall_is ha ?_
        simp [go_sem, law13_ShapesSound.r]
end
end Go.Abs
