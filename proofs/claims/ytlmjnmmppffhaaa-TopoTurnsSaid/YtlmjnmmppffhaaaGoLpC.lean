/- What the program's function on loops does to values. -/
import Derived.Test.YtlmjnmmppffhaaaGoLpB
import Derived.Test.YtlmjnmmppffhaaaGoSet
set_option linter.unusedVariables false
set_option linter.unusedSimpArgs false
namespace Go.Abs

def fromK (l : List P2) (k : Nat) : List (Int × Int) := (l.take k).foldl (fun M e => putG e.y e.x M) []
theorem fromK_succ {l : List P2} {k : Nat} {e : P2} (h : l[k]? = some e) : fromK l (k + 1) = putG e.y e.x (fromK l k) := by unfold fromK; rw [take_succ_get h, List.foldl_append]; rfl
theorem ynd_inj {l : List P2} (hy : (l.map P2.y).Nodup) {a b : P2} (ha : a ∈ l) (hb : b ∈ l) (h : a.y = b.y) : a = b := by
  obtain ⟨i, hi, rfl⟩ := List.mem_iff_getElem.1 ha
  obtain ⟨j, hj, rfl⟩ := List.mem_iff_getElem.1 hb
  have e1 : (l.map P2.y).idxOf l[i].y = i := by
    have := hy.idxOf_getElem i (by simpa using hi)
    simpa using this
  have e2 : (l.map P2.y).idxOf l[j].y = j := by
    have := hy.idxOf_getElem j (by simpa using hj)
    simpa using this
  rw [h] at e1
  have : i = j := by omega
  subst this; rfl
theorem fromK_get {l : List P2} (hy : (l.map P2.y).Nodup) : ∀ (k : Nat), k ≤ l.length → ∀ e ∈ l.take k, (fndG e.y (fromK l k)).map Prod.snd = some e.x
  | 0, _, e, he => by simp at he
  | k + 1, hk, e, he => by
    have hp : l[k]? = some l[k] := List.getElem?_eq_getElem (by omega)
    rw [take_succ_get hp] at he
    rw [fromK_succ hp, fndG_put]
    by_cases h : e.y = l[k].y
    · rw [if_pos h]
      have hel : e ∈ l := by
        rcases List.mem_append.1 he with h1 | h1
        · exact List.mem_of_mem_take h1
        · simp at h1; subst h1; exact List.getElem_mem _
      rw [ynd_inj hy hel (List.getElem_mem _) h]
    · rw [if_neg h]
      rcases List.mem_append.1 he with h1 | h1
      · exact fromK_get hy k (by omega) e h1
      · simp at h1; subst h1; exact absurd rfl h
theorem from_nxt {m : Mesh} (hz : m.check = 0) (h : m.simple m.border = true) {v : Int} (hv : v ∈ m.border.map P2.x) : ∃ i : Nat, fndG v (fromK m.border m.border.length) = some (i, nxt m.border v) := by
  rw [border_xy hz h] at hv
  obtain ⟨e, he, rfl⟩ := List.mem_map.1 hv
  have hy := border_ynd hz h
  have h1 := fromK_get hy m.border.length (Nat.le_refl _) e (by rw [List.take_length]; exact he)
  rw [nxt_of hy he]
  cases hf : fndG e.y (fromK m.border m.border.length) with
  | none => rw [hf] at h1; simp at h1
  | some p =>
    rw [hf] at h1
    simp only [Option.map_some, Option.some.injEq] at h1
    exact ⟨p.1, by rw [← h1]⟩
theorem asI_cl (L : List (Int × Int)) (n : Nat) : ∀ e ∈ L.map (asG (V.i .i64) (V.i .i64)), e.1.cl n = true ∧ e.2.cl n = true := by
  intro e he
  obtain ⟨⟨a, b⟩, _, rfl⟩ := List.mem_map.1 he
  exact ⟨rfl, rfl⟩
theorem asI_cl2 (L : List (Int × Int)) (n : Nat) : ∀ (a b : V) (x y : Int), (x, y) ∈ L → asG (V.i .i64) (V.i .i64) (x, y) = (a, b) → a.cl n = true ∧ b.cl n = true := by
  rintro a b x y _ h
  simp only [asG, Prod.mk.injEq] at h
  obtain ⟨rfl, rfl⟩ := h
  exact ⟨rfl, rfl⟩
theorem find_use {m : Mesh} {e : P2} (h : e ∈ m.border) : ∃ i : Nat, fnd e (tallyM m) = some (i, m.use e) := by
  obtain ⟨hz, he, _⟩ := mem_border.1 h
  obtain ⟨i, hi⟩ := tallyM_of hz he
  exact ⟨i, fnd_of_get (tallyM_nodup m) hi⟩

section
variable {P : Program} (hm : P.follows .mixedOrders = true)
include hm

set_option maxRecDepth 20000 in
set_option maxHeartbeats 8000000 in
theorem topo_Loops_ok {f fc fn fb fr : FuncId} (hf : FnOk P f (topo_Loops.c fc fn fb fr) topo_Loops.r topo_Loops.n) (hc : CheckC P fc) (hn : CountedC P fn) (hb : BoundaryC P fb) (hr : RevC P fr) : LoopsC P f := by
  intro m
  by_cases hz : m.check = 0
  case neg =>
    have he : m.loops = ([], m.check) := by simp [Mesh.loops, hz]
    rw [he]
    refine CallIs.res (r := .t [.nil, .i .i64 m.check]) ?_ (lsV_no _)
    refine PureC.is (pure_of hm hf (Nat.le_of_ble_eq_true rfl) ?_) rfl
    unfold topo_Loops.c
    simp [go_sem, Mesh.enc, Mesh.cs]
    refine ACall_is (hc m) ?_
    simp [go_sem, hz, topo_Loops.r]
  have hbl := border_len m
  have hLl := tallyM_len m
  have hmain : PureC P f [m.enc] (· = if m.simple m.border = true then V.t [lsV (loopsOf m.border), .i .i64 0] else .t [.nil, .i .i64 13]) := by
    refine pure_ofF hm hf (Nat.le_of_ble_eq_true rfl) ?_
    have hrange : ∀ e ∈ m.border, 0 ≤ e.x ∧ e.x < m.verts.length := fun e he => ⟨(border_range he).1, (border_range he).2.1⟩
    have hnm : ∀ v, m.simple m.border = true → v ∈ m.border.map P2.x → nxt m.border v ∈ m.border.map P2.x := fun v hsi => nxt_mem hz hsi
    have hfx : ∀ v, m.simple m.border = true → v ∈ m.border.map P2.x → ∃ i : Nat, fndG v (fromK m.border m.border.length) = some (i, nxt m.border v) := fun v hsi => from_nxt hz hsi
    have hfu : ∀ e ∈ m.border, ∃ i : Nat, fnd e (tallyM m) = some (i, m.use e) := fun e he => find_use he
    have hvu : ∀ e, val e (tallyM m) = m.use e := val_tallyM m
    unfold topo_Loops.c
    simp [go_sem, Mesh.enc, Mesh.cs]
    refine ACall_is (hc m) ?_
    simp [go_sem, hz]
    refine ACall_new (hn m) rfl ?_
    simp only [List.map_cons, List.map_nil, sh_asV]
    simp [go_sem]
    refine ACall_is (hb m) ?_
    generalize m.border = l at *
    generalize hT : tallyM m = T at *
    simp [go_sem, psV]
    refine AS_loop (α := Nat) (fun k => k ≤ l.length ∧ ∀ i, i < k → okAt m l i = true)
      (fun k => ⟨[(5, .mp 2), (6, psV l), (7, .mp 3), (26, psV l), (27, .i .i64 l.length), (28, .i .i64 k)], [.dead, .dead, .mp (T.map asV), .mp ((fromK l k).map (asG (V.i .i64) (V.i .i64)))]⟩)
      (fun k => l.length - k) 0 ⟨Nat.zero_le _, by simp⟩ ?_ ?_
    · simp [go_sem, psV, fromK]
      exact asV_cl _ 4
    · rintro k ⟨hk, hok⟩
      by_cases hkl : k = l.length
      · subst hkl
        have hsi : m.simple l = true := List.all_eq_true.2 fun i hi => hok i (List.mem_range.1 hi)
        rw [if_pos hsi]
        replace hnm := fun v => hnm v hsi
        replace hfx := fun v => hfx v hsi
        unfold loopsOf
        simp [go_sem, psV]
        have hxr : ∀ v, v ∈ l.map P2.x → nxt l v ∈ l.map P2.x := hnm
        refine AS_loopG [.t 10 1] (α := Nat × List O × List (List V)) (fun p => p.1 ≤ l.length ∧ Held 6 p.2.1 (loopsK (nxt l) l p.1).2 p.2.2 ∧ Flt p.2.1 ∧ (loopsK (nxt l) l p.1).2.length ≤ p.1)
          (fun p => ⟨[(7, .mp 3), (10, .own 5 ((loopsK (nxt l) l p.1).2.length + 1) 0 (loopsK (nxt l) l p.1).2.length), (11, .mp 4), (66, psV l), (67, .i .i64 l.length), (68, .i .i64 p.1)],
            .dead :: .dead :: .dead :: .mp ((fromK l l.length).map (asG (V.i .i64) (V.i .i64))) :: .mp ((loopsK (nxt l) l p.1).1.map (kt (V.i .i64))) :: .arr ((loopsK (nxt l) l p.1).2.length + 1) 1 p.2.2 :: p.2.1⟩)
          (fun p => l.length - p.1) (0, [], []) ⟨Nat.zero_le _, Held.nil 6, by simp [Flt], by simp [loopsK]⟩ ?_ ?_
        · simp [go_sem, psV, loopsK]
          exact asI_cl2 _ _
        · rintro ⟨k, hx, cells⟩ ⟨hk, hH, hF, hkl⟩
          simp only at hk hH hF hkl ⊢
          by_cases hkl : k = l.length
          · subst hkl
            have hfz := held_if (base := [.dead, .dead, .dead, .mp ((fromK l l.length).map (asG (V.i .i64) (V.i .i64))), .mp ((loopsK (nxt l) l l.length).1.map (kt (V.i .i64))), .arr ((loopsK (nxt l) l l.length).2.length + 1) 1 cells]) hH rfl
            simp only [List.cons_append, List.nil_append] at hfz
            generalize loopsK (nxt l) l l.length = D at *
            simp [go_sem, psV, topo_Loops.r, DoneF_r]
            rw [hfz]; rfl
          · have hlt : k < l.length := by omega
            have hp : l[k]? = some l[k] := List.getElem?_eq_getElem hlt
            have hmem : l[k] ∈ l := List.getElem_mem _
            have hst := loopsK_succ (nxt l) hp
            generalize l[k] = e at hp hst hmem
            obtain ⟨_, hp'⟩ := List.getElem?_eq_some_iff.1 hp
            generalize loopsK (nxt l) l k = D at *
            obtain ⟨done, ls⟩ := D
            simp only at *
            unfold loopStep at hst
            simp only at hst
            have f1 : findE [1] (V.i .i64 e.x) (done.map (kt (V.i .i64))) = _ := findE_set key_i64 e.x done
            by_cases hd : e.x ∈ done
            · rw [if_pos hd] at hst f1
              simp (disch := omega) [go_sem, psV, hlt, hp, hp', pcs, f1, wrap64_small, app_get_r, app_get_0]
              exact ⟨k + 1, hx, cells, ⟨by omega, by rw [hst]; exact hH, hF, by rw [hst]; simp only; omega⟩, by omega, by omega, ⟨by rw [hst], by simp⟩, asI_cl2 _ _, ⟨by rw [hst], fun a _ => ⟨rfl, rfl⟩⟩, ⟨⟨by rw [hst], rfl⟩, hH.cl (by omega)⟩, hF.WeakH _⟩
            · rw [if_neg hd] at hst f1
              simp (disch := omega) [go_sem, psV, hlt, hp, hp', pcs, f1, wrap64_small, app_get_r, app_get_0]
              have hxA : e.x ∈ l.map P2.x := List.mem_map.2 ⟨e, hmem, rfl⟩
              have htd := todo_le (l.map P2.x) done
              rw [List.length_map] at htd
              generalize hR : walkW (nxt l) done (l.length + 1) [] e.x = R at hst
              refine AS_loopG [.t 14 1] (α := Nat × List Int × Int) (fun q => q.2.2 ∈ l.map P2.x ∧ todo (l.map P2.x) (done ++ q.2.1) < q.1 ∧ walkW (nxt l) done q.1 q.2.1 q.2.2 = R ∧ q.2.1.length + q.1 ≤ l.length + 1)
                (fun q => ⟨[(7, .mp 3), (10, .own 5 (ls.length + 1) 0 ls.length), (11, .mp 4), (14, .own (hx.length + 7) (q.2.1.length + 1) 0 q.2.1.length), (15, .i .i64 q.2.2), (66, psV l), (67, .i .i64 l.length), (68, .i .i64 k)],
                  .dead :: .dead :: .dead :: .mp ((fromK l l.length).map (asG (V.i .i64) (V.i .i64))) :: .mp ((done ++ q.2.1).map (kt (V.i .i64))) :: .arr (ls.length + 1) 1 cells :: (hx ++ [.dead, .arr (q.2.1.length + 1) 1 (ics q.2.1)])⟩)
                (fun q => q.1) (l.length + 1, [], e.x) ⟨hxA, by simp only [List.append_nil]; omega, hR, by simp⟩ ?_ ?_
              · simp [go_sem, psV, ics]
                exact ⟨asI_cl2 _ _, fun a _ => ⟨rfl, rfl⟩, hH.cl (by omega), WeakH_app (fun o ho => hF o ho _) (by simp [go_sem])⟩
              · rintro ⟨fu, w, v⟩ ⟨q1, q2, q3, q4⟩
                simp only at q1 q2 q3 q4 ⊢
                have f2 : findE [1] (V.i .i64 v) ((done ++ w).map (kt (V.i .i64))) = _ := findE_set key_i64 v (done ++ w)
                cases fu with
                | zero => omega
                | succ fu =>
                  unfold walkW at q3
                  by_cases hvd : v ∈ done ++ w
                  · rw [if_pos hvd] at q3 f2
                    subst q3
                    have htc : List.take ls.length cells = cells := List.take_of_length_le (by rw [hH.1]; exact Nat.le_refl _)
                    have e4 : hx.length + 7 = 6 + (hx.length + 1) := by omega
                    have hHs : Held 6 (hx ++ [.dead, .arr (w.length + 1) 1 (ics w)]) (ls ++ [w]) (cells ++ [[.own (hx.length + 7) (w.length + 1) 0 w.length]]) := by
                      rw [e4]
                      exact (hH.app _).snoc (by rw [app_get_r]; rfl)
                    have hFs : Flt (hx ++ [.dead, .arr (w.length + 1) 1 (ics w)]) := hF.app fun o ho n => by
                      simp at ho
                      rcases ho with rfl | rfl
                      · trivial
                      · exact ics_cl w n
                    generalize hdw : done ++ w = dw at *
                    simp (disch := omega) [go_sem, psV, f2, wrap64_small, app_get_r, app_get_0, htc]
                    refine ⟨⟨by have := hH.1; omega, by omega, by omega⟩, k + 1, hx ++ [.dead, .arr (w.length + 1) 1 (ics w)], _, ⟨by omega, by rw [hst]; exact hHs, hFs, by rw [hst]; simp only [List.length_append, List.length_cons, List.length_nil]; omega⟩, by omega, by simp, ⟨by rw [hst]; simp, by simp⟩, asI_cl2 _ _, ⟨by rw [hst], fun a _ => ⟨rfl, rfl⟩⟩, ⟨⟨by rw [hst]; simp, rfl⟩, hHs.cl (by simp; omega)⟩, ?_⟩
                    have := hFs.WeakH (l := [O.arr 1 1 [[V.own (hx.length + 7) (w.length + 1) 0 w.length]]]) ((hx ++ [O.dead, O.arr (w.length + 1) 1 (ics w)]).length + 1 + 1 + 1 + 1 + 1 + 1)
                    rwa [List.append_assoc] at this
                  · rw [if_neg hvd] at q3 f2
                    have htl := todo_lt q1 hvd
                    obtain ⟨i4, hi4⟩ := hfx v q1
                    have f4 : findE [1] (V.i .i64 v) ((fromK l l.length).map (asG (V.i .i64) (V.i .i64))) = _ := findE_G key_i64 (V.i .i64) v (fromK l l.length)
                    rw [hi4, Option.map_some] at f4
                    have hnv := hnm v q1
                    rw [List.mem_map] at hnv
                    have htw : List.take w.length (ics w) = ics w := List.take_of_length_le (by simp [ics])
                    have hdw2 : done ++ (w ++ [v]) = done ++ w ++ [v] := (List.append_assoc _ _ _).symm
                    have hics : ics (w ++ [v]) = ics w ++ [[.i .i64 v]] := by simp [ics]
                    have hwl : (w ++ [v]).length = w.length + 1 := by simp
                    have hwi : w.length ≤ (ics w).length := by simp [ics]
                    generalize hdw : done ++ w = dw at *
                    simp (disch := omega) [go_sem, psV, f2, f4, wrap64_small, app_get_r, app_get_0, htw, hwi]
                    refine ⟨⟨by omega, by omega⟩, fu, w ++ [v], nxt l v, ⟨hnv, by rw [hdw2]; omega, q3, by simp; omega⟩, by omega, ⟨hwl.symm, rfl⟩, asI_cl2 _ _, ⟨?_, ?_⟩, hH.cl (by omega), ?_⟩
                    · rw [← hdw]; simp [kt]
                    · rintro a b (⟨_, _, h⟩ | ⟨_, _, h⟩) <;> (simp only [kt, Prod.mk.injEq] at h; obtain ⟨rfl, rfl⟩ := h; exact ⟨rfl, rfl⟩)
                    · rw [hics, hwl]
                      exact WeakH_app (fun o ho => hF o ho _) ⟨.inl rfl, .inr ⟨rfl, by rw [← hics]; exact ics_cl _ _⟩, trivial⟩
      · have hlt : k < l.length := by omega
        have hp : l[k]? = some l[k] := List.getElem?_eq_getElem hlt
        have hmem : l[k] ∈ l := List.getElem_mem _
        have hfs := fromK_succ hp
        generalize l[k] = e at hp hmem hfs
        obtain ⟨_, hp'⟩ := List.getElem?_eq_some_iff.1 hp
        have hoe : okAt m l k = (decide (m.use e = 1) && (decide (m.use e.rev = 0) && !(decide (0 < k) && decide (((l[k - 1]?).getD ⟨0, 0⟩).x = e.x)))) := by unfold okAt; rw [hp]
        have hfalse : okAt m l k = false → m.simple l = false := simple_false hlt
        have hnext : okAt m l k = true → ∀ i, i < k + 1 → okAt m l i = true := fun h i hi => by
          by_cases hik : i = k
          · subst hik; exact h
          · exact hok i (by omega)
        obtain ⟨i1, hi1⟩ := hfu e hmem
        have f1 : findE [1, 1] (V.a [V.i .i64 e.x, V.i .i64 e.y]) (T.map asV) = _ := findE_asV e T
        rw [hi1] at f1
        simp only [Option.map_some] at f1
        have f2 : findE [1, 1] (V.a [V.i .i64 e.y, V.i .i64 e.x]) (T.map asV) = _ := findE_asV e.rev T
        have hv2 := hvu e.rev
        unfold val at hv2
        have f3 : findE [1] (V.i .i64 e.y) ((fromK l k).map (asG (V.i .i64) (V.i .i64))) = _ := findE_G key_i64 (V.i .i64) e.y (fromK l k)
        simp (disch := omega) [go_sem, psV, hlt, hp, hp', pcs, f1]
        by_cases c1 : m.use e = 1
        · simp (disch := omega) [go_sem, c1]
          refine DCall_is (hr e) ?_
          simp only [P2.enc, P2.rev, pcs]
          cases hfn : fnd e.rev T with
          | none =>
            rw [hfn] at f2 hv2
            simp only [Option.map_none] at f2
            simp only at hv2
            have c2 : m.use e.rev = 0 := hv2.symm
            cases k with
            | zero =>
              have hT2 : okAt m l 0 = true := by rw [hoe]; simp [c1, c2]
              cases hfg : fndG e.y (fromK l 0) with
              | none =>
                rw [hfg, Option.map_none] at f3
                simp (disch := omega) [go_sem, psV, f2, wrap64_small, f3, c2]
                refine ⟨1, ⟨by omega, hnext hT2⟩, by omega, by simp, asV_cl _ _, ?_, ?_⟩
                · rw [hfs, putG, hfg]; simp [asG]
                · exact asI_cl2 _ _
              | some p =>
                obtain ⟨q, n3⟩ := p
                rw [hfg, Option.map_some] at f3
                simp (disch := omega) [go_sem, psV, f2, wrap64_small, f3, c2]
                refine ⟨1, ⟨by omega, hnext hT2⟩, by omega, by simp, asV_cl _ _, ?_, ?_⟩
                · rw [hfs, putG, hfg]; simp [asG, List.map_set]
                · exact asI_cl2 _ _
            | succ j =>
              have hq : l[j]? = some l[j] := List.getElem?_eq_getElem (by omega)
              rw [Nat.add_sub_cancel, hq] at hoe
              simp only [Option.getD_some] at hoe
              generalize l[j] = d at hq hoe
              obtain ⟨_, hq'⟩ := List.getElem?_eq_some_iff.1 hq
              by_cases c3 : d.x = e.x
              · have hF : okAt m l (j + 1) = false := by rw [hoe]; simp [c1, c2, c3]
                simp (disch := omega) [go_sem, c2, c3, f2, psV, wrap64_small, hq, hq', pcs, show j < l.length by omega, hfalse hF, topo_Loops.r, DoneF_r, show (0 : Int) < (j : Int) + 1 by omega]
              · have hT2 : okAt m l (j + 1) = true := by rw [hoe]; simp [c1, c2, c3]
                cases hfg : fndG e.y (fromK l (j + 1)) with
                | none =>
                  rw [hfg, Option.map_none] at f3
                  simp (disch := omega) [go_sem, psV, f2, wrap64_small, f3, c2, c3, hq, hq', pcs, show j < l.length by omega, show (0 : Int) < (j : Int) + 1 by omega]
                  refine ⟨j + 1 + 1, ⟨by omega, hnext hT2⟩, by omega, by simp, asV_cl _ _, ?_, ?_⟩
                  · rw [hfs, putG, hfg]; simp [asG]
                  · exact asI_cl2 _ _
                | some p =>
                  obtain ⟨q, n3⟩ := p
                  rw [hfg, Option.map_some] at f3
                  simp (disch := omega) [go_sem, psV, f2, wrap64_small, f3, c2, c3, hq, hq', pcs, show j < l.length by omega, show (0 : Int) < (j : Int) + 1 by omega]
                  refine ⟨j + 1 + 1, ⟨by omega, hnext hT2⟩, by omega, by simp, asV_cl _ _, ?_, ?_⟩
                  · rw [hfs, putG, hfg]; simp [asG, List.map_set]
                  · exact asI_cl2 _ _
          | some p =>
            obtain ⟨jj, n2⟩ := p
            rw [hfn] at f2 hv2
            simp only [Option.map_some] at f2
            simp only at hv2
            by_cases c2 : n2 = 0
            · subst c2
              have c2 : m.use e.rev = 0 := hv2.symm
              cases k with
              | zero =>
                have hT2 : okAt m l 0 = true := by rw [hoe]; simp [c1, c2]
                cases hfg : fndG e.y (fromK l 0) with
                | none =>
                  rw [hfg, Option.map_none] at f3
                  simp (disch := omega) [go_sem, psV, f2, wrap64_small, f3, c2]
                  refine ⟨1, ⟨by omega, hnext hT2⟩, by omega, by simp, asV_cl _ _, ?_, ?_⟩
                  · rw [hfs, putG, hfg]; simp [asG]
                  · exact asI_cl2 _ _
                | some p =>
                  obtain ⟨q, n3⟩ := p
                  rw [hfg, Option.map_some] at f3
                  simp (disch := omega) [go_sem, psV, f2, wrap64_small, f3, c2]
                  refine ⟨1, ⟨by omega, hnext hT2⟩, by omega, by simp, asV_cl _ _, ?_, ?_⟩
                  · rw [hfs, putG, hfg]; simp [asG, List.map_set]
                  · exact asI_cl2 _ _
              | succ j =>
                have hq : l[j]? = some l[j] := List.getElem?_eq_getElem (by omega)
                rw [Nat.add_sub_cancel, hq] at hoe
                simp only [Option.getD_some] at hoe
                generalize l[j] = d at hq hoe
                obtain ⟨_, hq'⟩ := List.getElem?_eq_some_iff.1 hq
                by_cases c3 : d.x = e.x
                · have hF : okAt m l (j + 1) = false := by rw [hoe]; simp [c1, c2, c3]
                  simp (disch := omega) [go_sem, c2, c3, f2, psV, wrap64_small, hq, hq', pcs, show j < l.length by omega, hfalse hF, topo_Loops.r, DoneF_r, show (0 : Int) < (j : Int) + 1 by omega]
                · have hT2 : okAt m l (j + 1) = true := by rw [hoe]; simp [c1, c2, c3]
                  cases hfg : fndG e.y (fromK l (j + 1)) with
                  | none =>
                    rw [hfg, Option.map_none] at f3
                    simp (disch := omega) [go_sem, psV, f2, wrap64_small, f3, c2, c3, hq, hq', pcs, show j < l.length by omega, show (0 : Int) < (j : Int) + 1 by omega]
                    refine ⟨j + 1 + 1, ⟨by omega, hnext hT2⟩, by omega, by simp, asV_cl _ _, ?_, ?_⟩
                    · rw [hfs, putG, hfg]; simp [asG]
                    · exact asI_cl2 _ _
                  | some p =>
                    obtain ⟨q, n3⟩ := p
                    rw [hfg, Option.map_some] at f3
                    simp (disch := omega) [go_sem, psV, f2, wrap64_small, f3, c2, c3, hq, hq', pcs, show j < l.length by omega, show (0 : Int) < (j : Int) + 1 by omega]
                    refine ⟨j + 1 + 1, ⟨by omega, hnext hT2⟩, by omega, by simp, asV_cl _ _, ?_, ?_⟩
                    · rw [hfs, putG, hfg]; simp [asG, List.map_set]
                    · exact asI_cl2 _ _
            · have hF : okAt m l k = false := by rw [hoe]; simp [c1, ← hv2, c2]
              have c2' : (n2 != 0) = true := by simpa using c2
              simp (disch := omega) [go_sem, c2, c2', f2, hfalse hF, topo_Loops.r, DoneF_r]
        · have hF : okAt m l k = false := by rw [hoe]; simp [c1]
          have c1' : (m.use e != 1) = true := by simpa using c1
          simp (disch := omega) [go_sem, c1, c1', hfalse hF, topo_Loops.r, DoneF_r]
          done
  cases hsi : m.simple m.border
  · have he : m.loops = ([], 13) := by simp [Mesh.loops, hz, hsi]
    rw [he]
    rw [hsi] at hmain
    exact CallIs.res (PureC.is hmain rfl) (lsV_no _)
  · have he : m.loops = (loopsOf m.border, 0) := by simp [Mesh.loops, hz, hsi]
    rw [he]
    rw [hsi] at hmain
    exact PureC.is hmain rfl
end
end Go.Abs

