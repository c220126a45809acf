/- Part of the abstract machine on which the proof stands: its values, code and their soundness against the model. -/
import Derived.Test.YtahpclonmobkiaaGoHp
import Derived.Test.YtahpclonmobkiaaGoHq
import Derived.Test.YtahpclonmobkiaaGoSet
set_option linter.unusedVariables false
set_option linter.unusedSimpArgs false
namespace Go.Abs

def ExtendC (P : Program) (f : FuncId) : Prop := ∀ (h : List O) (id id2 g : Nat) (v : V) (ts more : List T3), id ≠ id2 → h[id]? = some (.arr 1 2 [[v, .own id2 g 0 ts.length]]) → h[id2]? = some (.arr g 3 (ts.map T3.cs)) → ts.length ≤ 4096 → more.length ≤ 100000 →
  ACall P f [.p id 1 0 0, tsV more] h (fun r h' => (4096 < ts.length + more.length ∧ r = .b false ∧ h' = h) ∨
    (ts.length + more.length ≤ 4096 ∧ r = .b true ∧ h' = (h.set id2 (.arr (g + 1) 3 ((ts ++ more).map T3.cs))).set id (.arr 1 2 [[v, .own id2 (g + 1) 0 (ts ++ more).length]])))
theorem fillV_no (e : Int) : Le (.t [.a [.nil, .nil], .i .i64 0, .i .i64 e]) (fillV (noMesh, 0, e)) :=
  .inr ⟨_, _, rfl, rfl, .inr ⟨_, _, rfl, rfl, Le0.nil 3, Le0.nil 3, trivial⟩, Le1.refl _, Le1.refl _, trivial⟩
theorem sum_ge : ∀ (ls : List (List Int)) (w : List Int), w ∈ ls → w.length ≤ (ls.map List.length).sum
  | [], w, hw => by simp at hw
  | a :: l, w, hw => by
    rw [List.map_cons, List.sum_cons]
    rcases List.mem_cons.1 hw with rfl | hw
    · omega
    · have := sum_ge l w hw; omega
theorem sum_len : ∀ (ls : List (List Int)), (∀ w ∈ ls, 1 ≤ w.length) → ls.length ≤ (ls.map List.length).sum
  | [], _ => by simp
  | a :: l, h => by
    rw [List.map_cons, List.sum_cons, List.length_cons]
    have := sum_len l (fun w hw => h w (by simp [hw]))
    have := h a (by simp)
    omega
/-- The triangles with the first fans. -/
def trK (m : Mesh) (ls : List (List Int)) (k : Nat) : List T3 := m.tris ++ (ls.take k).flatMap fanOf
theorem loops_each {m : Mesh} (h : m.loops.2 = 0) : ∀ w ∈ m.loops.1, w.length ≤ 12288 := by
  intro w hw
  have h1 := loops_sum h
  have h2 := border_len m
  have h3 : w.length ≤ (m.loops.1.map List.length).sum := by
    exact sum_ge _ w hw
  omega
theorem loops_num {m : Mesh} (h : m.loops.2 = 0) : m.loops.1.length ≤ 12288 := by
  obtain ⟨hz, hs, hls⟩ := loops_ok h
  have h1 := loops_sum h
  have h2 := border_len m
  have hL := loops_are hz hs
  rw [← hls] at hL
  have : m.loops.1.length ≤ (m.loops.1.map List.length).sum := by
    have hne : ∀ w ∈ m.loops.1, 1 ≤ w.length := fun w hw => List.length_pos_iff.2 (hL.cyc w hw).1
    exact sum_len _ hne
  omega
theorem fanOf_len (w : List Int) : (fanOf w).length = w.length - 2 := by unfold fanOf; exact fanK_len _ _
theorem tris_clm (l : List T3) (n : Nat) : ∀ el ∈ l.map T3.cs, ∀ x ∈ el, x.cl n = true := by
  intro el hel x hx
  obtain ⟨t, _, rfl⟩ := List.mem_map.1 hel
  exact of_eq_true (t3c_cl t n) x hx
theorem verts_clm (l : List V3) (n : Nat) : ∀ el ∈ l.map V3.cs, ∀ x ∈ el, x.cl n = true := by
  intro el hel x hx
  obtain ⟨t, _, rfl⟩ := List.mem_map.1 hel
  exact of_eq_true (v3_cl t n) x hx

section
variable {P : Program} (hm : P.follows .mixedOrders = true)
include hm

theorem holes_extend_ok {f : FuncId} (hf : FnOk P f holes_extend.c holes_extend.r holes_extend.n) : ExtendC P f := by
  intro h id id2 g v ts more hne h1 h2 ht hmo
  refine call_keep hm hf (Nat.le_of_ble_eq_true rfl) ?_
  unfold holes_extend.c
  obtain ⟨hid2, h2'⟩ := List.getElem?_eq_some_iff.1 h2
  obtain ⟨hid, h1'⟩ := List.getElem?_eq_some_iff.1 h1
  have hs1 : ∀ o : O, (h.set id2 o)[id]? = some (.arr 1 2 [[v, .own id2 g 0 ts.length]]) := fun o => by rw [List.getElem?_set_ne (fun hh => hne hh.symm)]; exact h1
  have htk : List.take ts.length (ts.map T3.cs) = ts.map T3.cs := List.take_of_length_le (by simp)
  by_cases hlt : 4096 < ts.length + more.length
  · simp (disch := omega) [go_sem, h1, h1', h2, h2', tsV, wrap64_small, show (4096 : Int) < (ts.length : Int) + more.length by omega, holes_extend.r]
    exact hlt
  · simp (disch := omega) [go_sem, h1, h1', h2, h2', hs1, htk, tsV, wrap64_small, show ¬ (4096 : Int) < (ts.length : Int) + more.length by omega, holes_extend.r]
    exact ⟨⟨by omega, by omega⟩, by omega⟩

set_option maxRecDepth 20000 in
set_option maxHeartbeats 4000000 in
theorem holes_Fill_ok {f fc fl fcv fct ff fe : FuncId} (hf : FnOk P f (holes_Fill.c fc fl fcv fct ff fe) holes_Fill.r holes_Fill.n) (hc : CheckC P fc) (hl : LoopsC P fl) (hcv : CloneC P fcv 3) (hct : CloneC P fct 3) (hff : FanC P ff) (he : ExtendC P fe) : FillC P f := by
  intro m
  by_cases hz : m.check = 0
  case neg =>
    have hlp : m.loops = ([], m.check) := by simp [Mesh.loops, hz]
    have hR : fillR m = (noMesh, 0, m.check) := by unfold fillR; rw [hlp, if_neg hz]
    rw [hR]
    refine CallIs.res ?_ (fillV_no _)
    refine PureC.is (pure_of hm hf (Nat.le_of_ble_eq_true rfl) ?_) rfl
    unfold holes_Fill.c
    simp [go_sem, Mesh.enc, Mesh.cs]
    refine ACall_is (hc m) ?_
    simp [go_sem, hz, holes_Fill.r]
  have hl1 := hl m
  by_cases h0 : m.loops.2 = 0
  case neg =>
    have hR : fillR m = (noMesh, 0, m.loops.2) := by unfold fillR; rw [if_neg h0]
    rw [hR]
    refine CallIs.res ?_ (fillV_no _)
    refine PureC.is (pure_of hm hf (Nat.le_of_ble_eq_true rfl) ?_) rfl
    unfold holes_Fill.c
    simp [go_sem, Mesh.enc, Mesh.cs]
    refine ACall_is (hc m) ?_
    simp [go_sem, hz]
    refine ACall_is hl1 ?_
    simp [go_sem, h0, holes_Fill.r]
  obtain ⟨z1, z2, z3, z4⟩ := Mesh.check_zero.1 hz
  have hnum := loops_num h0
  have heach := loops_each h0
  have hmain : PureC P f [m.enc] (· = if m.fillM.tris.length ≤ 4096 then fillV (m.fillM, m.loops.1.length, 0) else .t [.a [.nil, .nil], .i .i64 0, .i .i64 2]) := by
    refine pure_of hm hf (Nat.le_of_ble_eq_true rfl) ?_
    unfold holes_Fill.c
    rw [h0] at hl1
    have hfm : m.fillM = ⟨m.verts, trK m m.loops.1 m.loops.1.length⟩ := by unfold trK; rw [List.take_length]; rfl
    rw [hfm]
    generalize m.loops.1 = ls at *
    have hok : (trK m ls ls.length).length ≤ 4096 → (if (trK m ls ls.length).length ≤ 4096 then fillV (⟨m.verts, trK m ls ls.length⟩, (ls.length : Int), 0) else V.t [.a [.nil, .nil], .i .i64 0, .i .i64 2]) = fillV (⟨m.verts, trK m ls ls.length⟩, (ls.length : Int), 0) := fun h => if_pos h
    have hno : ¬ (trK m ls ls.length).length ≤ 4096 → (if (trK m ls ls.length).length ≤ 4096 then fillV (⟨m.verts, trK m ls ls.length⟩, (ls.length : Int), 0) else V.t [.a [.nil, .nil], .i .i64 0, .i .i64 2]) = V.t [.a [.nil, .nil], .i .i64 0, .i .i64 2] := fun h => if_neg h
    simp only
    generalize (if (trK m ls ls.length).length ≤ 4096 then fillV (⟨m.verts, trK m ls ls.length⟩, (ls.length : Int), 0) else V.t [.a [.nil, .nil], .i .i64 0, .i .i64 2]) = RR at *
    simp [go_sem, Mesh.enc, Mesh.cs, vsV, tsV]
    refine ACall_is (hc m) ?_
    simp [go_sem, hz]
    refine ACall_is hl1 ?_
    simp [go_sem]
    refine DCall_new (hcv (m.verts.map V3.cs) (by simp [vcs_isD]) (by simp; omega)) (by simp [V.cl, V.cl1, V.cl0]) ?_
    simp [go_sem]
    refine DCall_new (hct (m.tris.map T3.cs) (by simp [tcs_isD]) (by simp; omega)) (by simp [V.cl, V.cl1, V.cl0]) ?_
    have hsv : ∀ (n : Nat) (a : V3), List.map (V.sh1 n) a.cs = a.cs := fun n a => by simp [vcs, V.sh1, V.sh0]
    have hst : ∀ (n : Nat) (a : T3), List.map (V.sh1 n) a.cs = a.cs := fun n a => by simp [tcs, V.sh1, V.sh0]
    simp [go_sem, lsV, hsv, hst]
    refine AS_loop (α := Nat) (fun k => k ≤ ls.length ∧ (trK m ls k).length ≤ 4096)
      (fun k => ⟨[(2, .p 1 1 0 0), (6, lsV ls), (8, .p 4 1 0 0), (33, lsV ls), (34, .i .i64 ls.length), (35, .i .i64 k)],
        [.dead, .arr 1 2 [[.nil, .nil]], .arr 1 3 (m.verts.map V3.cs), .arr (k + 1) 3 ((trK m ls k).map T3.cs), .arr 1 2 [[.own 2 1 0 m.verts.length, .own 3 (k + 1) 0 (trK m ls k).length]]]⟩)
      (fun k => ls.length - k) 0 ⟨Nat.zero_le _, by simpa [trK] using z2⟩ ?_ ?_
    · have h00 : trK m ls 0 = m.tris := by simp [trK]
      simp [go_sem, lsV, h00, hsv, hst, v3_cl, t3c_cl]
    · rintro k ⟨hk, hT⟩
      by_cases hkl : k = ls.length
      · subst hkl
        rw [hok hT]
        have htkl : List.take (trK m ls ls.length).length ((trK m ls ls.length).map T3.cs) = (trK m ls ls.length).map T3.cs := List.take_of_length_le (by simp)
        generalize trK m ls ls.length = T at *
        simp [go_sem, lsV, holes_Fill.r, fillV, Mesh.enc, Mesh.cs, vsV, tsV, vcs_isD, tcs_isD]
      · have hlt : k < ls.length := by omega
        have hp : ls[k]? = some ls[k] := List.getElem?_eq_getElem hlt
        have hmw : ls[k] ∈ ls := List.getElem_mem _
        have htk := take_succ_get hp
        have hpre : ls.flatMap fanOf = (ls.take k).flatMap fanOf ++ (fanOf ls[k] ++ (ls.drop (k + 1)).flatMap fanOf) := by
          have h1 := List.take_append_drop k ls
          rw [List.drop_eq_getElem_cons hlt] at h1
          have h2 := congrArg (List.flatMap fanOf) h1
          rw [List.flatMap_append, List.flatMap_cons] at h2
          exact h2.symm
        generalize ls[k] = w at hp hmw htk hpre
        obtain ⟨_, hp'⟩ := List.getElem?_eq_some_iff.1 hp
        have hwl := heach w hmw
        have hfl := fanOf_len w
        have hts : trK m ls (k + 1) = trK m ls k ++ fanOf w := by
          unfold trK
          rw [htk, List.flatMap_append, ← List.append_assoc]; simp
        have hov : 4096 < (trK m ls k).length + (fanOf w).length → ¬ (trK m ls ls.length).length ≤ 4096 := by
          intro hh
          unfold trK at hh ⊢
          rw [List.take_length, hpre]
          simp only [List.length_append] at hh ⊢
          omega
        have hff1 := hff w (by omega)
        generalize hTk : trK m ls k = T at *
        simp [go_sem, lsV, hlt, hp, hp']
        refine ACall_is hff1 ?_
        simp [go_sem]
        refine (he _ 4 3 (k + 1) (.own 2 1 0 m.verts.length) T (fanOf w) (by omega) rfl rfl hT (by omega)).mono ?_
        rintro r h' (⟨q1, rfl, rfl⟩ | ⟨q1, rfl, rfl⟩)
        · rw [hno (hov q1)]
          simp [go_sem, lsV, holes_Fill.r]
        · simp (disch := omega) [go_sem, lsV, wrap64_small]
          refine ⟨k + 1, ⟨by omega, by rw [hts]; simpa using q1⟩, by omega, by simp, ?_⟩
          rw [hts]
          simp [or_imp, forall_and, v3_cl, t3c_cl]
  by_cases hT : m.fillM.tris.length ≤ 4096
  · have hR : fillR m = (m.fillM, (m.loops.1.length : Int), 0) := by unfold fillR; rw [if_pos h0, if_pos hT]
    rw [if_pos hT] at hmain
    rw [hR]
    exact PureC.is hmain rfl
  · have hR : fillR m = (noMesh, 0, 2) := by unfold fillR; rw [if_pos h0, if_neg hT]
    rw [if_neg hT] at hmain
    rw [hR]
    exact CallIs.res (PureC.is hmain rfl) (fillV_no _)
end
end Go.Abs

set_option linter.unusedVariables false
set_option linter.unusedSimpArgs false
namespace Go.Abs

section
variable {P : Program} (hm : P.follows .mixedOrders = true)
include hm

set_option maxRecDepth 20000 in
set_option maxHeartbeats 4000000 in
theorem ref12_Fill_ok {f fc fl ff : FuncId} (hf : FnOk P f (ref12_Fill.c fc fl ff) ref12_Fill.r ref12_Fill.n) (hc : CheckC P fc) (hl : LoopsC P fl) (hff : FanC P ff) : FillC P f := by
  intro m
  by_cases hz : m.check = 0
  case neg =>
    have hlp : m.loops = ([], m.check) := by simp [Mesh.loops, hz]
    have hR : fillR m = (noMesh, 0, m.check) := by unfold fillR; rw [hlp, if_neg hz]
    rw [hR]
    refine CallIs.res ?_ (fillV_no _)
    refine PureC.is (pure_of hm hf (Nat.le_of_ble_eq_true rfl) ?_) rfl
    unfold ref12_Fill.c
    simp [go_sem, Mesh.enc, Mesh.cs]
    refine ACall_is (hc m) ?_
    simp [go_sem, hz, ref12_Fill.r]
  have hl1 := hl m
  by_cases h0 : m.loops.2 = 0
  case neg =>
    have hR : fillR m = (noMesh, 0, m.loops.2) := by unfold fillR; rw [if_neg h0]
    rw [hR]
    refine CallIs.res ?_ (fillV_no _)
    refine PureC.is (pure_of hm hf (Nat.le_of_ble_eq_true rfl) ?_) rfl
    unfold ref12_Fill.c
    simp [go_sem, Mesh.enc, Mesh.cs]
    refine ACall_is (hc m) ?_
    simp [go_sem, hz]
    refine ACall_is hl1 ?_
    simp [go_sem, h0, ref12_Fill.r]
  obtain ⟨z1, z2, z3, z4⟩ := Mesh.check_zero.1 hz
  have hnum := loops_num h0
  have heach := loops_each h0
  have hflen := fill_len h0
  have hbl := border_len m
  have hmain : PureC P f [m.enc] (· = if m.fillM.tris.length ≤ 4096 then fillV (m.fillM, m.loops.1.length, 0) else .t [.a [.nil, .nil], .i .i64 0, .i .i64 2]) := by
    refine pure_of hm hf (Nat.le_of_ble_eq_true rfl) ?_
    unfold ref12_Fill.c
    rw [h0] at hl1
    have hfm : m.fillM = ⟨m.verts, trK m m.loops.1 m.loops.1.length⟩ := by unfold trK; rw [List.take_length]; rfl
    rw [hfm] at hflen ⊢
    generalize m.loops.1 = ls at *
    have hok : (trK m ls ls.length).length ≤ 4096 → (if (trK m ls ls.length).length ≤ 4096 then fillV (⟨m.verts, trK m ls ls.length⟩, (ls.length : Int), 0) else V.t [.a [.nil, .nil], .i .i64 0, .i .i64 2]) = fillV (⟨m.verts, trK m ls ls.length⟩, (ls.length : Int), 0) := fun h => if_pos h
    have hno : ¬ (trK m ls ls.length).length ≤ 4096 → (if (trK m ls ls.length).length ≤ 4096 then fillV (⟨m.verts, trK m ls ls.length⟩, (ls.length : Int), 0) else V.t [.a [.nil, .nil], .i .i64 0, .i .i64 2]) = V.t [.a [.nil, .nil], .i .i64 0, .i .i64 2] := fun h => if_neg h
    simp only at hflen ⊢
    generalize (if (trK m ls ls.length).length ≤ 4096 then fillV (⟨m.verts, trK m ls ls.length⟩, (ls.length : Int), 0) else V.t [.a [.nil, .nil], .i .i64 0, .i .i64 2]) = RR at *
    simp [go_sem, Mesh.enc, Mesh.cs, vsV, tsV]
    refine ACall_is (hc m) ?_
    simp [go_sem, hz]
    refine ACall_is hl1 ?_
    simp [go_sem]
    refine ⟨⟨by omega, by omega⟩, ?_⟩
    have hcs : m.cs = [.l 3 (m.verts.map V3.cs), .l 3 (m.tris.map T3.cs)] := rfl
    refine AS_loop (α := Nat) (fun k => k ≤ ls.length)
      (fun k => ⟨[(1, .p 0 1 0 0), (2, .p 1 1 0 0), (6, lsV ls), (7, .own 2 (k + 1) 0 (trK m ls k).length), (8, .i .i64 k)],
        [.arr 1 2 [m.cs], .arr 1 2 [[.nil, .nil]], .arr (k + 1) 3 ((trK m ls k).map T3.cs)]⟩)
      (fun k => ls.length - k) 0 (Nat.zero_le _) ?_ ?_
    · have h00 : trK m ls 0 = m.tris := by simp [trK]
      simp [go_sem, lsV, h00, hcs, v3_cl, t3c_cl]
    · rintro k hk
      by_cases hkl : k = ls.length
      · subst hkl
        have htkl : List.take (trK m ls ls.length).length ((trK m ls ls.length).map T3.cs) = (trK m ls ls.length).map T3.cs := List.take_of_length_le (by simp)
        generalize trK m ls ls.length = T at *
        by_cases hT : T.length ≤ 4096
        · rw [hok hT]
          simp (disch := omega) [go_sem, lsV, hcs, show ¬ (4096 : Int) < T.length by omega, ref12_Fill.r, fillV, Mesh.enc, Mesh.cs, vsV, tsV, vcs_isD, tcs_isD, wrap64_small]
          exact ⟨by omega, by omega⟩
        · rw [hno hT]
          simp (disch := omega) [go_sem, lsV, hcs, show (4096 : Int) < T.length by omega, ref12_Fill.r, wrap64_small]
      · have hlt : k < ls.length := by omega
        have hp : ls[k]? = some ls[k] := List.getElem?_eq_getElem hlt
        have hmw : ls[k] ∈ ls := List.getElem_mem _
        have htk := take_succ_get hp
        have hpre : ls.flatMap fanOf = (ls.take k).flatMap fanOf ++ (fanOf ls[k] ++ (ls.drop (k + 1)).flatMap fanOf) := by
          have h1 := List.take_append_drop k ls
          rw [List.drop_eq_getElem_cons hlt] at h1
          have h2 := congrArg (List.flatMap fanOf) h1
          rw [List.flatMap_append, List.flatMap_cons] at h2
          exact h2.symm
        generalize ls[k] = w at hp hmw htk hpre
        obtain ⟨_, hp'⟩ := List.getElem?_eq_some_iff.1 hp
        have hwl := heach w hmw
        have hfl := fanOf_len w
        have hts : trK m ls (k + 1) = trK m ls k ++ fanOf w := by
          unfold trK
          rw [htk, List.flatMap_append, ← List.append_assoc]; simp
        have hov : (trK m ls k).length + (fanOf w).length ≤ (trK m ls ls.length).length := by
          unfold trK
          rw [List.take_length, hpre]
          simp only [List.length_append]
          omega
        have hff1 := hff w (by omega)
        have htkl : List.take (trK m ls k).length ((trK m ls k).map T3.cs) = (trK m ls k).map T3.cs := List.take_of_length_le (by simp)
        generalize hTk : trK m ls k = T at *
        simp (disch := omega) [go_sem, lsV, hlt, hp, hp', wrap64_small]
        refine ACall_is hff1 ?_
        simp (disch := omega) [go_sem, lsV, tsV, wrap64_small, htkl]
        refine ⟨⟨by omega, by omega⟩, k + 1, by omega, by omega, ⟨⟨rfl, by rw [hts, List.length_append]⟩, by simp⟩, ?_, rfl, by rw [hts, List.map_append]⟩
        intro x hx
        rw [hcs] at hx
        simp at hx
        rcases hx with rfl | rfl <;> rfl
  by_cases hT : m.fillM.tris.length ≤ 4096
  · have hR : fillR m = (m.fillM, (m.loops.1.length : Int), 0) := by unfold fillR; rw [if_pos h0, if_pos hT]
    rw [if_pos hT] at hmain
    rw [hR]
    exact PureC.is hmain rfl
  · have hR : fillR m = (noMesh, 0, 2) := by unfold fillR; rw [if_pos h0, if_neg hT]
    rw [if_neg hT] at hmain
    rw [hR]
    exact CallIs.res (PureC.is hmain rfl) (fillV_no _)
end
end Go.Abs

