/- Part of the abstract machine on which the proof stands: its values, code and their soundness against the model. -/
import Derived.Test.YtlmjnmmppffhaaaGoTr
set_option linter.unusedVariables false
set_option linter.unusedSimpArgs false
namespace Go.Abs

def insZ (U : List Int) (x : Int) : List Int := if x ∈ U then U else U ++ [x]
theorem insZ_cases (U : List Int) (x : Int) : (x ∈ U ∧ insZ U x = U) ∨ (x ∉ U ∧ insZ U x = U ++ [x]) := by unfold insZ; by_cases h : x ∈ U <;> simp [h]
def insT (U : List Int) (t : T3) : List Int := insZ (insZ (insZ U t.a) t.b) t.c
def usedZ (ts : List T3) : List Int := ts.foldl insT []
theorem usedZ_snoc (ts : List T3) (t : T3) : usedZ (ts ++ [t]) = insT (usedZ ts) t := by simp [usedZ]
theorem insZ_ok {U : List Int} (h : U.Nodup) (x : Int) : (insZ U x).Nodup ∧ (∀ v, v ∈ insZ U x ↔ v ∈ U ∨ v = x) ∧ (insZ U x).length ≤ U.length + 1 := by
  unfold insZ
  split
  · rename_i hx
    exact ⟨h, fun v => ⟨.inl, fun hh => hh.elim id (fun e => e ▸ hx)⟩, by omega⟩
  · rename_i hx
    refine ⟨?_, fun v => by simp, by simp⟩
    rw [List.nodup_append]
    exact ⟨h, by simp, fun a ha b hb => by simp at hb; subst hb; rintro rfl; exact hx ha⟩
theorem insT_ok {U : List Int} (h : U.Nodup) (t : T3) : (insT U t).Nodup ∧ (∀ v, v ∈ insT U t ↔ v ∈ U ∨ v = t.a ∨ v = t.b ∨ v = t.c) ∧ (insT U t).length ≤ U.length + 3 := by
  obtain ⟨a1, a2, a3⟩ := insZ_ok h t.a
  obtain ⟨b1, b2, b3⟩ := insZ_ok a1 t.b
  obtain ⟨c1, c2, c3⟩ := insZ_ok b1 t.c
  refine ⟨c1, fun v => ?_, by unfold insT; omega⟩
  unfold insT
  rw [c2, b2, a2, or_assoc, or_assoc]
theorem usedZ_ok (ts : List T3) : (usedZ ts).Nodup ∧ (∀ v, v ∈ usedZ ts ↔ ∃ t ∈ ts, v = t.a ∨ v = t.b ∨ v = t.c) ∧ (usedZ ts).length ≤ 3 * ts.length := by
  have key : ∀ k, k ≤ ts.length → (usedZ (ts.take k)).Nodup ∧ (∀ v, v ∈ usedZ (ts.take k) ↔ ∃ t ∈ ts.take k, v = t.a ∨ v = t.b ∨ v = t.c) ∧ (usedZ (ts.take k)).length ≤ 3 * k := by
    intro k
    induction k with
    | zero => intro _; simp [usedZ]
    | succ k ih =>
      intro hk
      obtain ⟨h1, h2, h3⟩ := ih (by omega)
      have hp : ts[k]? = some ts[k] := List.getElem?_eq_getElem (by omega)
      rw [take_succ_get hp, usedZ_snoc]
      obtain ⟨i1, i2, i3⟩ := insT_ok h1 ts[k]
      refine ⟨i1, fun v => ?_, by omega⟩
      rw [i2, h2]
      constructor
      · rintro (⟨t, ht, hv⟩ | hv)
        · exact ⟨t, List.mem_append.2 (.inl ht), hv⟩
        · exact ⟨ts[k], List.mem_append.2 (.inr (by simp)), hv⟩
      · rintro ⟨t, ht, hv⟩
        rcases List.mem_append.1 ht with h | h
        · exact .inl ⟨t, h, hv⟩
        · simp at h; subst h; exact .inr hv
  have := key ts.length (Nat.le_refl _)
  rwa [List.take_length] at this
def Mesh.euler (m : Mesh) : Int := if m.check = 0 then ((usedZ m.tris).length : Int) - m.edgesL.length + m.tris.length else 0
def EulerC (P : Program) (f : FuncId) : Prop := ∀ m : Mesh, CallIs P f [m.enc] (.i .i64 m.euler)
theorem perm_nodupE {l k : List Int} (hl : l.Nodup) (hk : k.Nodup) (h : ∀ v, v ∈ l ↔ v ∈ k) : l.Perm k := by
  rw [List.perm_iff_count]
  intro v
  have c : ∀ {l : List Int}, l.Nodup → l.count v = if v ∈ l then 1 else 0 := fun {l} hl => by
    by_cases he : v ∈ l
    · rw [if_pos he]
      have h1 := List.count_pos_iff.2 he
      have h2 := List.nodup_iff_count.1 hl v
      omega
    · rw [if_neg he]; exact List.count_eq_zero.2 he
  rw [c hl, c hk]
  by_cases hv : v ∈ l
  · rw [if_pos hv, if_pos ((h v).1 hv)]
  · rw [if_neg hv, if_neg (fun hh => hv ((h v).2 hh))]
theorem countP_mem {n : Nat} {U : List Int} (hn : U.Nodup) (hr : ∀ v ∈ U, 0 ≤ v ∧ v < n) : ((List.range n).filter fun (j : Nat) => decide ((j : Int) ∈ U)).length = U.length := by
  have h1 : (((List.range n).filter fun (j : Nat) => decide ((j : Int) ∈ U)).map fun (j : Nat) => (j : Int)).Perm U := by
    refine perm_nodupE ?_ hn fun v => ?_
    · have h0 : ((List.range n).filter fun (j : Nat) => decide ((j : Int) ∈ U)).Nodup := List.nodup_range.filter _
      rw [List.nodup_iff_pairwise_ne] at h0 ⊢
      rw [List.pairwise_map]
      exact h0.imp fun {a b : Nat} (h : a ≠ b) (hh : (a : Int) = (b : Int)) => h (by omega)
    · rw [List.mem_map]
      constructor
      · rintro ⟨j, hj, rfl⟩
        simpa using (List.mem_filter.1 hj).2
      · intro hv
        obtain ⟨r1, r2⟩ := hr v hv
        refine ⟨v.toNat, List.mem_filter.2 ⟨List.mem_range.2 (by omega), ?_⟩, by omega⟩
        rw [show ((v.toNat : Nat) : Int) = v by omega]; simpa using hv
  have := h1.length_eq
  rwa [List.length_map] at this
theorem kt_set {U : List Int} {e : Int} (h : e ∈ U) : (List.map (kt (V.i .i64)) U).set (U.idxOf e) (V.i .i64 e, V.b true) = List.map (kt (V.i .i64)) U := by
  apply List.ext_getElem?
  intro j
  have hlt := List.idxOf_lt_length_iff.2 h
  by_cases hj : U.idxOf e = j
  · subst hj
    rw [List.getElem?_set_self (by simpa using hlt), List.getElem?_map, List.getElem?_eq_getElem hlt, List.getElem_idxOf hlt]
    rfl
  · rw [List.getElem?_set_ne hj]
theorem kt_snoc (U : List Int) (e : Int) : List.map (kt (V.i .i64)) U ++ [(V.i .i64 e, V.b true)] = List.map (kt (V.i .i64)) (U ++ [e]) := by rw [List.map_append]; rfl
theorem kt_find (e : Int) (U : List Int) : findE [1] (V.i .i64 e) (List.map (kt (V.i .i64)) U) = some (if e ∈ U then some (U.idxOf e, .b true) else none) := findE_set key_i64 e U
theorem kti_cl (U : List Int) (n : Nat) : ∀ e ∈ U.map (kt (V.i .i64)), e.1.cl n = true ∧ e.2.cl n = true := by
  intro e he
  obtain ⟨a, _, rfl⟩ := List.mem_map.1 he
  exact ⟨rfl, rfl⟩

section
variable {P : Program} (hm : P.follows .mixedOrders = true)
include hm

set_option maxHeartbeats 2000000 in
theorem topo_Euler_ok {f fc fe : FuncId} (hf : FnOk P f (topo_Euler.c fc fe) topo_Euler.r topo_Euler.n) (hc : CheckC P fc) (he : EdgesLC P fe) : EulerC P f := by
  intro m
  refine PureC.is (pure_of hm hf (Nat.le_of_ble_eq_true rfl) ?_) rfl
  unfold topo_Euler.c
  by_cases hz : m.check = 0
  case neg =>
    simp [go_sem, Mesh.enc, Mesh.cs]
    refine ACall_is (hc m) ?_
    simp [go_sem, hz, topo_Euler.r, Mesh.euler]
  have hl := (Mesh.check_zero.1 hz).2.1
  have hel := @edgesL_len m
  have he1 := he m
  have hR : m.euler = ((usedZ m.tris).length : Int) - m.edgesL.length + m.tris.length := by simp [Mesh.euler, hz]
  rw [hR]
  have hul := (usedZ_ok m.tris).2.2
  simp only [Mesh.enc, Mesh.cs, tsV] at he1
  generalize m.edgesL = L at *
  simp [go_sem, Mesh.enc, Mesh.cs, tsV]
  refine ACall_is (hc m) ?_
  simp [go_sem, hz]
  refine AS_loop (α := Nat) (fun k => k ≤ m.tris.length)
    (fun k => ⟨[(1, .p 0 1 0 0), (3, .mp 1), (11, tsV m.tris), (12, .i .i64 m.tris.length), (13, .i .i64 k)], [.arr 1 2 [m.cs], .mp ((usedZ (m.tris.take k)).map (kt (V.i .i64)))]⟩)
    (fun k => m.tris.length - k) 0 (Nat.zero_le _) ?_ ?_
  · simp [go_sem, tsV, usedZ, Mesh.cs, vsV]
  · intro k hk
    by_cases hkl : k = m.tris.length
    · subst hkl
      rw [List.take_length]
      generalize usedZ m.tris = U at *
      simp (disch := omega) [go_sem, tsV, Mesh.cs, wrap64_small]
      refine DCall_is he1 ?_
      simp (disch := omega) [go_sem, psV, wrap64_small, topo_Euler.r]
    · have hlt : k < m.tris.length := by omega
      have hp : m.tris[k]? = some m.tris[k] := List.getElem?_eq_getElem hlt
      generalize m.tris[k] = t at hp
      obtain ⟨_, hp'⟩ := List.getElem?_eq_some_iff.1 hp
      have hsu : usedZ (m.tris.take (k + 1)) = insT (usedZ (m.tris.take k)) t := by rw [take_succ_get hp, usedZ_snoc]
      have hnx : ∀ M, M = usedZ (m.tris.take (k + 1)) → ∃ x', x' ≤ m.tris.length ∧ m.tris.length - x' < m.tris.length - k ∧ (k : Int) + 1 = x' ∧ List.map (kt (V.i .i64)) M = List.map (kt (V.i .i64)) (usedZ (m.tris.take x')) := fun M hM => ⟨k + 1, by omega, by omega, by simp, by rw [hM]⟩
      rw [hsu] at hnx
      unfold insT at hnx
      generalize usedZ (m.tris.take k) = U at *
      have c1 := insZ_cases U t.a
      have c2 := insZ_cases (insZ U t.a) t.b
      have c3 := insZ_cases (insZ (insZ U t.a) t.b) t.c
      generalize insZ (insZ (insZ U t.a) t.b) t.c = U3 at *
      generalize insZ (insZ U t.a) t.b = U2 at *
      generalize insZ U t.a = U1 at *
      have hfin := hnx U3 rfl
      clear hnx
      have hA : U1 = U ++ [t.a] → List.map (kt (V.i .i64)) U ++ [(V.i .i64 t.a, V.b true)] = List.map (kt (V.i .i64)) U1 := fun h => by rw [h, kt_snoc]
      have hB : U2 = U1 ++ [t.b] → List.map (kt (V.i .i64)) U1 ++ [(V.i .i64 t.b, V.b true)] = List.map (kt (V.i .i64)) U2 := fun h => by rw [h, kt_snoc]
      have hC : U3 = U2 ++ [t.c] → List.map (kt (V.i .i64)) U2 ++ [(V.i .i64 t.c, V.b true)] = List.map (kt (V.i .i64)) U3 := fun h => by rw [h, kt_snoc]
      obtain ⟨x', h1, h2, h3, h4⟩ := hfin
      rcases c1 with ⟨ha, rfl⟩ | ⟨ha, eA⟩ <;> rcases c2 with ⟨hb, rfl⟩ | ⟨hb, eB⟩ <;> rcases c3 with ⟨hcc, rfl⟩ | ⟨hcc, eC⟩ <;>
        simp (disch := first | omega | assumption) [-List.map_append, go_sem, tsV, Mesh.cs, hlt, hp, hp', tcs, kt_find, hA, hB, hC, kt_set, ha, hb, hcc, wrap64_small] <;>
        exact ⟨x', h1, h2, h3, rfl, h4, fun a _ => ⟨rfl, rfl⟩⟩

set_option maxHeartbeats 2000000 in
theorem ref10_Euler_ok {f fc fe : FuncId} (hf : FnOk P f (ref10_Euler.c fc fe) ref10_Euler.r ref10_Euler.n) (hc : CheckC P fc) (he : EdgesLC P fe) : EulerC P f := by
  intro m
  refine PureC.is (pure_of hm hf (Nat.le_of_ble_eq_true rfl) ?_) rfl
  unfold ref10_Euler.c
  by_cases hz : m.check = 0
  case neg =>
    simp [go_sem, Mesh.enc, Mesh.cs]
    refine ACall_is (hc m) ?_
    simp [go_sem, hz, ref10_Euler.r, Mesh.euler]
  obtain ⟨hv, hl, _, _⟩ := Mesh.check_zero.1 hz
  have hel := @edgesL_len m
  have he1 := he m
  have hR : m.euler = ((usedZ m.tris).length : Int) - m.edgesL.length + m.tris.length := by simp [Mesh.euler, hz]
  rw [hR]
  obtain ⟨hun, hum, hul⟩ := usedZ_ok m.tris
  have hur : ∀ v ∈ usedZ m.tris, 0 ≤ v ∧ v < m.verts.length := by
    intro v hv
    obtain ⟨t, ht, h⟩ := (hum v).1 hv
    obtain ⟨a1, a2, b1, b2, c1, c2⟩ := T3.ok_iff.1 (List.all_eq_true.1 (Mesh.check_zero.1 hz).2.2.2 t ht)
    rcases h with rfl | rfl | rfl <;> omega
  have hcnt := countP_mem hun hur
  simp only [Mesh.enc, Mesh.cs, vsV, tsV] at he1
  generalize m.edgesL = L at *
  simp [go_sem, Mesh.enc, Mesh.cs, vsV, tsV]
  refine ACall_is (hc m) ?_
  simp [go_sem, hz, mk_nil]
  refine ⟨⟨by omega, by omega⟩, ?_⟩
  refine AS_loop (α := Nat) (fun k => k ≤ m.tris.length)
    (fun k => ⟨[(1, .p 0 1 0 0), (3, .own 1 1 0 m.verts.length), (16, tsV m.tris), (17, .i .i64 m.tris.length), (18, .i .i64 k)], [.arr 1 2 [m.cs], .arr 1 1 (mk m.verts.length (usedZ (m.tris.take k)))]⟩)
    (fun k => m.tris.length - k) 0 (Nat.zero_le _) ?_ ?_
  · simp [go_sem, tsV, usedZ, Mesh.cs, vsV]
    exact mk_cl _ _ _
  · intro k hk
    by_cases hkl : k = m.tris.length
    · subst hkl
      rw [List.take_length]
      have hmkl := mk_len m.verts.length (usedZ m.tris)
      simp (disch := omega) [go_sem, tsV, vsV, Mesh.cs, wrap64_small]
      refine DCall_is he1 ?_
      simp (disch := omega) [go_sem, psV, wrap64_small]
      refine AS_loop (α := Nat) (fun j => j ≤ m.verts.length)
        (fun j => ⟨[(3, .own 1 1 0 m.verts.length), (6, .i .i64 ((m.tris.length : Int) - L.length + (((List.range j).filter fun (j : Nat) => decide ((j : Int) ∈ usedZ m.tris)).length : Nat))), (42, .own 1 1 0 m.verts.length), (43, .i .i64 m.verts.length), (44, .i .i64 j)], [.dead, .arr 1 1 (mk m.verts.length (usedZ m.tris))]⟩)
        (fun j => m.verts.length - j) 0 (Nat.zero_le _) ?_ ?_
      · simp [go_sem]
        exact mk_cl _ _ _
      · intro j hj
        by_cases hjl : j = m.verts.length
        · subst hjl
          rw [hcnt]
          simp (disch := omega) [go_sem, wrap64_small, ref10_Euler.r]
          omega
        · have hjt : j < m.verts.length := by omega
          have hg := mk_get (n := m.verts.length) (d := usedZ m.tris) (v := (j : Int)) (by omega) (by omega)
          rw [Int.toNat_natCast] at hg
          obtain ⟨_, hg'⟩ := List.getElem?_eq_some_iff.1 hg
          have hfl : ((List.range j).filter fun (j : Nat) => decide ((j : Int) ∈ usedZ m.tris)).length ≤ j := by
            have := List.length_filter_le (fun (j : Nat) => decide ((j : Int) ∈ usedZ m.tris)) (List.range j)
            simpa using this
          have hfs : ((List.range (j + 1)).filter fun (j : Nat) => decide ((j : Int) ∈ usedZ m.tris)).length = ((List.range j).filter fun (j : Nat) => decide ((j : Int) ∈ usedZ m.tris)).length + if (j : Int) ∈ usedZ m.tris then 1 else 0 := by
            rw [List.range_succ, List.filter_append, List.length_append]
            by_cases h : (j : Int) ∈ usedZ m.tris <;> simp [h]
          have hnx : ∀ F, F = ((List.range (j + 1)).filter fun (j : Nat) => decide ((j : Int) ∈ usedZ m.tris)).length → ∃ x', x' ≤ m.verts.length ∧ m.verts.length - x' < m.verts.length - j ∧ ((m.tris.length : Int) - L.length + (F : Nat) = (m.tris.length : Int) - L.length + (((List.range x').filter fun (j : Nat) => decide ((j : Int) ∈ usedZ m.tris)).length : Nat) ∧ (j : Int) + 1 = x') := fun F hF => ⟨j + 1, by omega, by omega, by rw [hF], by simp⟩
          rw [hfs] at hnx
          generalize ((List.range j).filter fun (j : Nat) => decide ((j : Int) ∈ usedZ m.tris)).length = F at *
          by_cases hin : (j : Int) ∈ usedZ m.tris
          · rw [decide_eq_true hin] at hg hg'
            simp (disch := omega) [go_sem, hjt, hg, hg', wrap64_small]
            obtain ⟨x', q1, q2, q3, q4⟩ := hnx (F + 1) (by rw [if_pos hin])
            exact ⟨x', q1, q2, ⟨by omega, q4⟩, mk_cl _ _ _⟩
          · rw [decide_eq_false hin] at hg hg'
            simp (disch := omega) [go_sem, hjt, hg, hg', wrap64_small]
            obtain ⟨x', q1, q2, q3, q4⟩ := hnx F (by rw [if_neg hin]; rfl)
            exact ⟨x', q1, q2, ⟨by omega, q4⟩, mk_cl _ _ _⟩
    · have hlt : k < m.tris.length := by omega
      have hp : m.tris[k]? = some m.tris[k] := List.getElem?_eq_getElem hlt
      have htm : m.tris[k] ∈ m.tris := List.getElem_mem _
      generalize m.tris[k] = t at hp htm
      obtain ⟨_, hp'⟩ := List.getElem?_eq_some_iff.1 hp
      obtain ⟨a1, a2, b1, b2, c1, c2⟩ := T3.ok_iff.1 (List.all_eq_true.1 (Mesh.check_zero.1 hz).2.2.2 t htm)
      have hsu : usedZ (m.tris.take (k + 1)) = insT (usedZ (m.tris.take k)) t := by rw [take_succ_get hp, usedZ_snoc]
      have hml : ∀ d, (mk m.verts.length d).length = m.verts.length := fun d => mk_len _ d
      have hms : ∀ d, mk m.verts.length (((d ++ [t.a]) ++ [t.b]) ++ [t.c]) = mk m.verts.length (insT d t) := by
        intro d
        refine bl_congr fun j _ => ?_
        have h1 : ∀ (v x : Int) (d : List Int), (v ∈ insZ d x) ↔ v ∈ d ∨ v = x := by
          intro v x d
          unfold insZ
          split
          · rename_i hx
            exact ⟨.inl, fun hh => hh.elim id (fun e => e ▸ hx)⟩
          · simp
        rw [Bool.eq_iff_iff, decide_eq_true_eq, decide_eq_true_eq]
        unfold insT
        rw [h1, h1, h1]
        simp [or_assoc]
      have hs1 := fun d => mk_set (n := m.verts.length) (d := d) a1
      have hs2 := fun d => mk_set (n := m.verts.length) (d := d) b1
      have hs3 := fun d => mk_set (n := m.verts.length) (d := d) c1
      have g1 := fun d => mk_get (n := m.verts.length) (d := d) a1 a2
      have g2 := fun d => mk_get (n := m.verts.length) (d := d) b1 b2
      have g3 := fun d => mk_get (n := m.verts.length) (d := d) c1 c2
      have g1' := fun d => (List.getElem?_eq_some_iff.1 (g1 d)).2
      have g2' := fun d => (List.getElem?_eq_some_iff.1 (g2 d)).2
      have g3' := fun d => (List.getElem?_eq_some_iff.1 (g3 d)).2
      generalize usedZ (m.tris.take k) = U at *
      simp (disch := omega) [-List.append_assoc, go_sem, tsV, vsV, Mesh.cs, hlt, hp, hp', tcs, a1, a2, b1, b2, c1, c2, hml, hs1, hs2, hs3, hms, g1, g2, g3, g1', g2', g3', wrap64_small]
      exact ⟨k + 1, by omega, by omega, by simp, by rw [hsu], mk_cl _ _ _⟩
end
end Go.Abs

set_option linter.unusedVariables false
set_option linter.unusedSimpArgs false
namespace Go.Abs

def T3.sft (n : Int) (t : T3) : T3 := ⟨t.a + n, t.b + n, t.c + n⟩
def P2.sft (n : Int) (e : P2) : P2 := ⟨e.x + n, e.y + n⟩
def Mesh.join (a b : Mesh) : Mesh := ⟨a.verts ++ b.verts, a.tris ++ b.tris.map (T3.sft a.verts.length)⟩
def joinR (a b : Mesh) : Mesh × Int := if a.check = 0 ∧ b.check = 0 then (if a.verts.length + b.verts.length ≤ 4096 ∧ a.tris.length + b.tris.length ≤ 4096 then (a.join b, 0) else (noMesh, 2)) else (noMesh, 1)
def JoinC (P : Program) (f : FuncId) : Prop := ∀ a b : Mesh, CallIs P f [a.enc, b.enc] (.t [(joinR a b).1.enc, .i .i64 (joinR a b).2])
theorem edges_sft (n : Int) (t : T3) : edgesOf (t.sft n) = (edgesOf t).map (P2.sft n) := by
  have e1 : ∀ t, edgesOf t = (edges3 t).filter fun e => decide (e.x ≠ e.y) := fun _ => rfl
  rw [e1, e1]
  have e2 : edges3 (t.sft n) = (edges3 t).map (P2.sft n) := rfl
  rw [e2, List.filter_map]
  congr 1
  refine List.filter_congr fun e _ => ?_
  simp only [Function.comp, P2.sft]
  by_cases h : e.x = e.y
  · simp [h]
  · have : e.x + n ≠ e.y + n := by omega
    simp [h, this]
theorem alluses_sft (n : Int) (l : List T3) : alluses (l.map (T3.sft n)) = (alluses l).map (P2.sft n) := by
  unfold alluses
  rw [List.flatMap_map, List.map_flatMap]
  congr 1
  funext t
  exact edges_sft n t
theorem und_sft (n : Int) (e : P2) : (e.sft n).und = e.und.sft n := by
  simp only [P2.und, P2.sft, P2.mk.injEq]; omega
theorem sft_inj {n : Int} {a b : P2} (h : a.sft n = b.sft n) : a = b := by
  cases a; cases b; simp only [P2.sft, P2.mk.injEq] at h ⊢; omega
theorem join_check {a b : Mesh} (ha : a.check = 0) (hb : b.check = 0) (h1 : a.verts.length + b.verts.length ≤ 4096) (h2 : a.tris.length + b.tris.length ≤ 4096) : (a.join b).check = 0 := by
  obtain ⟨_, _, a3, a4⟩ := Mesh.check_zero.1 ha
  obtain ⟨_, _, b3, b4⟩ := Mesh.check_zero.1 hb
  refine Mesh.check_zero.2 ⟨by simpa [Mesh.join] using h1, by simpa [Mesh.join] using h2, ?_, ?_⟩
  · simp only [Mesh.join, vsOk, List.all_append, Bool.and_eq_true]
    exact ⟨a3, b3⟩
  · simp only [Mesh.join, tsOk, List.all_append, Bool.and_eq_true, List.all_eq_true, List.length_append] at a4 b4 ⊢
    refine ⟨fun t ht => ?_, fun t ht => ?_⟩
    · have := T3.ok_iff.1 (a4 t ht)
      exact T3.ok_iff.2 (by omega)
    · obtain ⟨s, hs, rfl⟩ := List.mem_map.1 ht
      have := T3.ok_iff.1 (b4 s hs)
      exact T3.ok_iff.2 (by simp only [T3.sft]; omega)
theorem perm_nodupG {l k : List P2} (hl : l.Nodup) (hk : k.Nodup) (h : ∀ v, v ∈ l ↔ v ∈ k) : l.length = k.length := by
  have h1 := nodupP_len hl (fun a ha => (h a).1 ha)
  have h2 := nodupP_len hk (fun a ha => (h a).2 ha)
  omega
theorem edgesL_nodup {m : Mesh} : m.edgesL.Nodup := by
  unfold Mesh.edgesL
  split
  · exact (ascOf_asc _).imp fun h1 h2 => by subst h2; exact P2.lt_irrefl _ h1
  · simp
theorem mem_edgesL {m : Mesh} (hz : m.check = 0) {e : P2} : e ∈ m.edgesL ↔ ∃ a ∈ alluses m.tris, a.und = e := by
  unfold Mesh.edgesL
  rw [if_pos hz, mem_ascOf, List.mem_map]
theorem join_edges {a b : Mesh} (ha : a.check = 0) (hb : b.check = 0) (hj : (a.join b).check = 0) : (a.join b).edgesL.length = a.edgesL.length + b.edgesL.length := by
  have h : (a.join b).edgesL.length = (a.edgesL ++ b.edgesL.map (P2.sft a.verts.length)).length := by
    refine perm_nodupG edgesL_nodup ?_ fun e => ?_
    · rw [List.nodup_append]
      refine ⟨edgesL_nodup, ?_, ?_⟩
      · have h0 := edgesL_nodup (m := b)
        rw [List.nodup_iff_pairwise_ne] at h0 ⊢
        rw [List.pairwise_map]
        exact h0.imp fun {x y : P2} (h : x ≠ y) hh => h (sft_inj hh)
      · rintro x hx _ hy rfl
        obtain ⟨y, hy2, hyx⟩ := List.mem_map.1 hy
        obtain ⟨p, hp, rfl⟩ := (mem_edgesL ha).1 hx
        obtain ⟨q, hq, rfl⟩ := (mem_edgesL hb).1 hy2
        have r1 := alluses_range ha hp
        have r2 := alluses_range hb hq
        have := congrArg P2.x hyx
        simp only [P2.sft, P2.und] at this
        omega
    · rw [mem_edgesL hj, List.mem_append, List.mem_map]
      have e1 : alluses (a.join b).tris = alluses a.tris ++ (alluses b.tris).map (P2.sft a.verts.length) := by
        rw [← alluses_sft]; unfold Mesh.join alluses; simp
      rw [e1]
      constructor
      · rintro ⟨p, hp, rfl⟩
        rcases List.mem_append.1 hp with h | h
        · exact .inl ((mem_edgesL ha).2 ⟨p, h, rfl⟩)
        · obtain ⟨q, hq, rfl⟩ := List.mem_map.1 h
          exact .inr ⟨q.und, (mem_edgesL hb).2 ⟨q, hq, rfl⟩, (und_sft _ _).symm⟩
      · rintro (h | ⟨y, hy, rfl⟩)
        · obtain ⟨p, hp, rfl⟩ := (mem_edgesL ha).1 h
          exact ⟨p, by simp [hp], rfl⟩
        · obtain ⟨q, hq, rfl⟩ := (mem_edgesL hb).1 hy
          exact ⟨q.sft a.verts.length, List.mem_append.2 (.inr (List.mem_map.2 ⟨q, hq, rfl⟩)), und_sft _ _⟩
  rw [h, List.length_append, List.length_map]
theorem used_range {m : Mesh} (hz : m.check = 0) {v : Int} (h : v ∈ usedZ m.tris) : 0 ≤ v ∧ v < m.verts.length := by
  obtain ⟨t, ht, h⟩ := ((usedZ_ok m.tris).2.1 v).1 h
  obtain ⟨a1, a2, b1, b2, c1, c2⟩ := T3.ok_iff.1 (List.all_eq_true.1 (Mesh.check_zero.1 hz).2.2.2 t ht)
  rcases h with rfl | rfl | rfl <;> omega
theorem join_used {a b : Mesh} (ha : a.check = 0) (hb : b.check = 0) : (usedZ (a.join b).tris).length = (usedZ a.tris).length + (usedZ b.tris).length := by
  obtain ⟨j1, j2, _⟩ := usedZ_ok (a.join b).tris
  obtain ⟨a1, a2, _⟩ := usedZ_ok a.tris
  obtain ⟨b1, b2, _⟩ := usedZ_ok b.tris
  have h := (perm_nodupE (l := usedZ (a.join b).tris) (k := usedZ a.tris ++ (usedZ b.tris).map (· + (a.verts.length : Int))) j1 ?_ ?_).length_eq
  · rw [h, List.length_append, List.length_map]
  · rw [List.nodup_append]
    refine ⟨a1, ?_, ?_⟩
    · rw [List.nodup_iff_pairwise_ne] at b1 ⊢
      rw [List.pairwise_map]
      exact b1.imp fun {x y : Int} (h : x ≠ y) (hh : x + (a.verts.length : Int) = y + (a.verts.length : Int)) => h (by omega)
    · rintro x hx _ hy rfl
      obtain ⟨y, hy, hyx⟩ := List.mem_map.1 hy
      have r1 := used_range ha hx
      have r2 := used_range hb hy
      omega
  · intro v
    rw [j2, List.mem_append, List.mem_map]
    have e1 : (a.join b).tris = a.tris ++ b.tris.map (T3.sft a.verts.length) := rfl
    rw [e1]
    constructor
    · rintro ⟨t, ht, hv⟩
      rcases List.mem_append.1 ht with h | h
      · exact .inl ((a2 v).2 ⟨t, h, hv⟩)
      · obtain ⟨s, hs, rfl⟩ := List.mem_map.1 h
        refine .inr ⟨v - a.verts.length, (b2 _).2 ⟨s, hs, ?_⟩, by omega⟩
        simp only [T3.sft] at hv
        omega
    · rintro (h | ⟨y, hy, rfl⟩)
      · obtain ⟨t, ht, hv⟩ := (a2 v).1 h
        exact ⟨t, by simp [ht], hv⟩
      · obtain ⟨s, hs, hv⟩ := (b2 y).1 hy
        refine ⟨s.sft a.verts.length, List.mem_append.2 (.inr (List.mem_map.2 ⟨s, hs, rfl⟩)), ?_⟩
        simp only [T3.sft]
        omega
theorem join_euler {a b : Mesh} (h : (joinR a b).2 = 0) : (joinR a b).1.euler = a.euler + b.euler := by
  unfold joinR at h ⊢
  by_cases hc : a.check = 0 ∧ b.check = 0
  · rw [if_pos hc] at h ⊢
    by_cases hl : a.verts.length + b.verts.length ≤ 4096 ∧ a.tris.length + b.tris.length ≤ 4096
    · rw [if_pos hl]
      have hj := join_check hc.1 hc.2 hl.1 hl.2
      have h1 := join_edges hc.1 hc.2 hj
      have h2 := join_used hc.1 hc.2
      have h3 : (a.join b).tris.length = a.tris.length + b.tris.length := by simp [Mesh.join]
      simp only [Mesh.euler, hj, hc.1, hc.2, if_true]
      omega
    · rw [if_neg hl] at h; simp at h
  · rw [if_neg hc] at h; simp at h

/-- The triangles of the first mesh with the first ones of the second. -/
def jtK (a b : Mesh) (k : Nat) : List T3 := a.tris ++ (b.tris.take k).map (T3.sft a.verts.length)
theorem jtK_len {a b : Mesh} {k : Nat} (h : k ≤ b.tris.length) : (jtK a b k).length = a.tris.length + k := by simp [jtK]; omega
theorem jtK_succ {a b : Mesh} {k : Nat} {t : T3} (h : b.tris[k]? = some t) : jtK a b (k + 1) = jtK a b k ++ [t.sft a.verts.length] := by
  unfold jtK; rw [take_succ_get h, List.map_append, ← List.append_assoc]; rfl

section
variable {P : Program} (hm : P.follows .mixedOrders = true)
include hm

omit hm in
theorem join_no (e : Int) : Le (.t [.a [.nil, .nil], .i .i64 e]) (.t [noMesh.enc, .i .i64 e]) :=
  .inr ⟨_, _, rfl, rfl, .inr ⟨_, _, rfl, rfl, Le0.nil 3, Le0.nil 3, trivial⟩, Le1.refl _, trivial⟩

set_option maxRecDepth 20000 in
set_option maxHeartbeats 2000000 in
theorem mesh_Join_ok {f fc : FuncId} (hf : FnOk P f (mesh_Join.c fc) mesh_Join.r mesh_Join.n) (hc : CheckC P fc) : JoinC P f := by
  intro a b
  by_cases hz : a.check = 0 ∧ b.check = 0
  case neg =>
    have hR : joinR a b = (noMesh, 1) := by unfold joinR; rw [if_neg hz]
    rw [hR]
    refine CallIs.res ?_ (join_no _)
    refine PureC.is (pure_of hm hf (Nat.le_of_ble_eq_true rfl) ?_) rfl
    unfold mesh_Join.c
    simp [go_sem, Mesh.enc, Mesh.cs]
    refine ACall_is (hc a) ?_
    by_cases h1 : a.check = 0
    · have h2 : ¬ b.check = 0 := fun h => hz ⟨h1, h⟩
      have hb : (b.check != 0) = true := by simpa using h2
      simp [go_sem, h1]
      refine ACall_is (hc b) ?_
      simp [go_sem, h2, hb, mesh_Join.r]
    · have hb : (a.check != 0) = true := by simpa using h1
      simp [go_sem, h1, hb, mesh_Join.r]
  obtain ⟨z1, z2, _, za4⟩ := Mesh.check_zero.1 hz.1
  obtain ⟨y1, y2, _, yb4⟩ := Mesh.check_zero.1 hz.2
  by_cases hl : a.verts.length + b.verts.length ≤ 4096 ∧ a.tris.length + b.tris.length ≤ 4096
  case neg =>
    have hR : joinR a b = (noMesh, 2) := by unfold joinR; rw [if_pos hz, if_neg hl]
    rw [hR]
    refine CallIs.res ?_ (join_no _)
    refine PureC.is (pure_of hm hf (Nat.le_of_ble_eq_true rfl) ?_) rfl
    unfold mesh_Join.c
    simp [go_sem, Mesh.enc, Mesh.cs, vsV, tsV]
    refine ACall_is (hc a) ?_
    simp [go_sem, hz.1]
    refine ACall_is (hc b) ?_
    by_cases h1 : a.verts.length + b.verts.length ≤ 4096
    · simp (disch := omega) [go_sem, hz.2, wrap64_small, show ¬ (4096 : Int) < (a.verts.length : Int) + b.verts.length by omega, show (4096 : Int) < (a.tris.length : Int) + b.tris.length by omega, mesh_Join.r]
    · simp (disch := omega) [go_sem, hz.2, wrap64_small, show (4096 : Int) < (a.verts.length : Int) + b.verts.length by omega, mesh_Join.r]
  have hR : joinR a b = (a.join b, 0) := by unfold joinR; rw [if_pos hz, if_pos hl]
  rw [hR]
  refine PureC.is (pure_of hm hf (Nat.le_of_ble_eq_true rfl) ?_) rfl
  unfold mesh_Join.c
  simp [go_sem, Mesh.enc, Mesh.cs, vsV, tsV]
  refine ACall_is (hc a) ?_
  simp [go_sem, hz.1]
  refine ACall_is (hc b) ?_
  simp (disch := omega) [go_sem, hz.2, wrap64_small, show ¬ (4096 : Int) < (a.verts.length : Int) + b.verts.length by omega, show ¬ (4096 : Int) < (a.tris.length : Int) + b.tris.length by omega]
  refine ⟨⟨by omega, by omega⟩, ⟨by omega, by omega⟩, ⟨by omega, by omega⟩, ?_⟩
  refine AS_loop (α := Nat) (fun k => k ≤ b.tris.length)
    (fun k => ⟨[(4, .p 2 1 0 0), (6, .i .i64 a.verts.length), (7, .p 5 1 0 0), (55, tsV b.tris), (56, .i .i64 b.tris.length), (57, .i .i64 k)],
      [.dead, .dead, .arr 1 2 [[.nil, .nil]], .arr 2 3 (a.verts.map V3.cs ++ b.verts.map V3.cs), .arr (k + 1) 3 ((jtK a b k).map T3.cs), .arr 1 2 [[.own 3 2 0 (a.verts.length + b.verts.length), .own 4 (k + 1) 0 (jtK a b k).length]]]⟩)
    (fun k => b.tris.length - k) 0 (Nat.zero_le _) ?_ ?_
  · have h0 : jtK a b 0 = a.tris := by simp [jtK]
    simp [go_sem, tsV, h0, or_imp, forall_and, v3_cl, t3c_cl]
  · intro k hk
    by_cases hkl : k = b.tris.length
    · subst hkl
      have hj : a.join b = ⟨a.verts ++ b.verts, jtK a b b.tris.length⟩ := by unfold Mesh.join jtK; rw [List.take_length]
      rw [hj]
      have htk : List.take (jtK a b b.tris.length).length ((jtK a b b.tris.length).map T3.cs) = (jtK a b b.tris.length).map T3.cs := List.take_of_length_le (by simp)
      have htv : List.take (a.verts.length + b.verts.length) (a.verts.map V3.cs ++ b.verts.map V3.cs) = a.verts.map V3.cs ++ b.verts.map V3.cs := List.take_of_length_le (by simp)
      generalize jtK a b b.tris.length = T at *
      simp (disch := omega) [go_sem, tsV, vsV, Mesh.enc, Mesh.cs, mesh_Join.r, vcs_isD, tcs_isD, or_imp, forall_and, htv]
    · have hlt : k < b.tris.length := by omega
      have hp : b.tris[k]? = some b.tris[k] := List.getElem?_eq_getElem hlt
      have htm : b.tris[k] ∈ b.tris := List.getElem_mem _
      generalize b.tris[k] = t at hp htm
      obtain ⟨_, hp'⟩ := List.getElem?_eq_some_iff.1 hp
      obtain ⟨a1, a2, b1, b2, c1, c2⟩ := T3.ok_iff.1 (List.all_eq_true.1 yb4 t htm)
      have hjl := jtK_len (a := a) (b := b) (k := k) (by omega)
      have hjs := jtK_succ (a := a) hp
      have htk : List.take (jtK a b k).length ((jtK a b k).map T3.cs) = (jtK a b k).map T3.cs := List.take_of_length_le (by simp)
      generalize jtK a b k = T at *
      simp (disch := omega) [go_sem, tsV, hlt, hp, hp', tcs, wrap64_small, htk]
      refine ⟨⟨by omega, by omega⟩, k + 1, by omega, by omega, ?_⟩
      rw [hjs]
      simp [T3.sft, tcs, or_imp, forall_and, v3_cl, t3c_cl]
end
end Go.Abs

set_option linter.unusedVariables false
set_option linter.unusedSimpArgs false
namespace Go.Abs

theorem euler_bound (m : Mesh) : -20000 ≤ m.euler ∧ m.euler ≤ 20000 := by
  unfold Mesh.euler
  split
  · rename_i hz
    have h1 := (usedZ_ok m.tris).2.2
    have h2 := @edgesL_len m
    have h3 := (Mesh.check_zero.1 hz).2.1
    omega
  · omega

section
variable {P : Program} (hm : P.follows .mixedOrders = true)
include hm

set_option maxHeartbeats 2000000 in
theorem TopoEuler_ok {f fh fa fj fe fr : FuncId} (hf : FnOk P f (law10_TopoEuler.c fh fa fj fe fr) law10_TopoEuler.r law10_TopoEuler.n) (hh : HeavyC P fh) (ha : AwakeC P fa) (hj : JoinC P fj) (he : EulerC P fe) (hr : EulerC P fr)
    (a b : Mesh) : PureC P f [a.enc, b.enc] (· = .b true) := by
  refine pure_of hm hf (Nat.le_of_ble_eq_true rfl) ?_
  unfold law10_TopoEuler.c
  have hh1 := hh a
  have hh2 := hh b
  have hj1 := hj a b
  have he1 := he a
  have he2 := he b
  have hr1 := hr a
  have he3 := he (joinR a b).1
  have hsum := @join_euler a b
  have b1 := euler_bound a
  have b2 := euler_bound b
  generalize joinR a b = j at *
  obtain ⟨jm, je⟩ := j
  simp only at hj1 he3 hsum
  generalize a.euler = x at *
  generalize b.euler = y at *
  generalize jm.euler = z at *
  simp only [Mesh.enc, Mesh.cs] at hh1 hh2 hj1 he1 he2 hr1 he3
  simp [go_sem, Mesh.enc, Mesh.cs]
  refine ACall_is hh1 ?_
  cases a.heavy
  case true =>
    simp [go_sem]
    refine ACall_is ha ?_
    simp [go_sem, law10_TopoEuler.r]
  simp [go_sem]
  refine ACall_is hh2 ?_
  cases b.heavy
  case true =>
    simp [go_sem]
    refine ACall_is ha ?_
    simp [go_sem, law10_TopoEuler.r]
  simp [go_sem]
  refine ACall_is hj1 ?_
  simp [go_sem]
  refine DCall_is he1 ?_
  simp [go_sem]
  refine DCall_is hr1 ?_
  by_cases h0 : je = 0
  · have hz := hsum h0
    simp [go_sem, h0]
    refine DCall_is he3 ?_
    simp [go_sem]
    refine DCall_is he1 ?_
    simp [go_sem]
    refine DCall_is he2 ?_
    simp (disch := omega) [go_sem, wrap64_small, hz]
    refine DCall_is ha ?_
    simp [go_sem, law10_TopoEuler.r]
  · have hb : (je != 0) = true := by simpa using h0
    simp [go_sem, h0, hb]
    refine DCall_is ha ?_
    simp [go_sem, law10_TopoEuler.r]
end
end Go.Abs

