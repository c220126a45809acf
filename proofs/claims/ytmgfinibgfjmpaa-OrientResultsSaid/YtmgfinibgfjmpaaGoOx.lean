/- Part of the library on which the proof stands: an abstract machine, its values and its soundness against the model; or what functions of the program do to such values. -/
import Derived.Test.YtmgfinibgfjmpaaGoSn
import Derived.Test.YtmgfinibgfjmpaaGoSl
import Derived.Test.YtmgfinibgfjmpaaGoClone
set_option linter.unusedVariables false
set_option linter.unusedSimpArgs false
namespace Go.Abs

def idL (n : Nat) : List Int := (List.range n).map fun (j : Nat) => (j : Int)
theorem idL_succ (n : Nat) : idL (n + 1) = idL n ++ [(n : Int)] := by unfold idL; rw [List.range_succ, List.map_append]; rfl
theorem idL_len (n : Nat) : (idL n).length = n := by simp [idL]
theorem lsV_nil : Le .nil (lsV []) := .inl (.inl (Le0.nil 1))
theorem sum_le {ts : List T3} {L K : List Int} (h : PreLab ts L) (s : Spread ts L K) : sumN K ≤ sumN L := by
  by_cases hne : K = L
  · subst hne; exact Nat.le_refl _
  · exact Nat.le_of_lt (s.sum h hne)

theorem frz_own {h : List O} {id g sz n : Nat} {els : List (List V)} (ho : h[id]? = some (.arr g sz els)) (hn : els.length = n) (hd : ∀ el ∈ els, ∀ x ∈ el, x.isD = true) : frz h (.own id g 0 n) = some (.l sz els) := by
  subst hn
  have ha : (els.all fun x => x.all V.isD) = true := by rw [List.all_eq_true]; exact fun el hel => List.all_eq_true.2 (hd el hel)
  simp [frz, frz0, ho, ha]

section
variable {P : Program} (hm : P.follows .mixedOrders = true)
include hm

set_option maxRecDepth 20000 in
set_option maxHeartbeats 8000000 in
theorem ref10_Shells_ok {f fc fs : FuncId} (hf : FnOk P f (ref10_Shells.c fc fs) ref10_Shells.r ref10_Shells.n) (hc : CheckC P fc) (hs : SpreadFC P fs) : ShellsC P f := by
  intro m
  by_cases hz : m.check = 0
  case neg =>
    have he : m.shells = [] := by simp [Mesh.shells, hz]
    rw [he]
    refine CallIs.res (r := .nil) ?_ lsV_nil
    refine PureC.is (pure_of hm hf (Nat.le_of_ble_eq_true rfl) ?_) rfl
    unfold ref10_Shells.c
    simp [go_sem, Mesh.enc, Mesh.cs]
    refine ACall_is (hc m) ?_
    simp [go_sem, hz, ref10_Shells.r]
  have hl := (Mesh.check_zero.1 hz).2.1
  have hR : ∀ L, IsLab m.tris L → m.shells = shsK L L.length := fun L hL => by unfold Mesh.shells; rw [if_pos hz, labOf_eq hL]
  refine PureC.is (pure_ofF hm hf (Nat.le_of_ble_eq_true rfl) ?_) rfl
  unfold ref10_Shells.c
  have hpre := pre_id m.tris
  have hidl : ∀ n, (List.range n).map (fun (j : Nat) => (j : Int)) = idL n := fun _ => rfl
  rw [hidl] at hpre
  simp [go_sem, Mesh.enc, Mesh.cs, tsV]
  refine ACall_is (hc m) ?_
  simp [go_sem, hz]
  refine AS_loopG [.t 3 1] (α := Nat) (fun k => k ≤ m.tris.length)
    (fun k => ⟨[(1, .p 0 1 0 0), (3, .own 1 (k + 1) 0 k), (15, .i .i64 m.tris.length), (16, .i .i64 k)], [.arr 1 2 [m.cs], .arr (k + 1) 1 (ics (idL k))]⟩)
    (fun k => m.tris.length - k) 0 (Nat.zero_le _) ?_ ?_
  · simp [go_sem, Mesh.cs, vsV, tsV, idL, ics]
  · intro k hk
    by_cases hkl : k = m.tris.length
    · subst hkl
      have hil := idL_len m.tris.length
      simp [go_sem, Mesh.cs]
      generalize idL m.tris.length = I at *
      refine AS_loop (α := Option (List Int × Bool)) (fun x => match x with | none => True | some (L, ag) => PreLab m.tris L ∧ (ag = false → IsLab m.tris L))
        (fun x => match x with
          | none => ⟨[(1, .p 0 1 0 0), (3, .own 1 (m.tris.length + 1) 0 m.tris.length), (5, .b true)], [.arr 1 2 [m.cs], .arr (m.tris.length + 1) 1 (ics I)]⟩
          | some (L, ag) => ⟨[(1, .p 0 1 0 0), (3, isV L), (5, .b ag)], [.arr 1 2 [m.cs], .dead]⟩)
        (fun x => match x with | none => sumN I + 2 | some (L, true) => sumN L + 1 | some (L, false) => 0) none trivial ?_ ?_
      · simp [go_sem, Mesh.cs, vsV, tsV]
        exact ics_cl _ _
      · rintro (_ | ⟨L, ag⟩) hx
        · have hsp := sprK_ok hpre
          have hs1 := hs m I hz hpre
          have hps := hpre.spread hsp
          have hsl := sum_le hpre hsp
          have hfix : sprK m.tris I m.tris.length = I → IsLab m.tris I := fun h => Spread.fix hpre (by rw [h] at hsp; exact hsp)
          generalize sprK m.tris I m.tris.length = K at *
          simp [go_sem, Mesh.cs]
          have hfz : frz [O.arr 1 2 [[vsV m.verts, tsV m.tris]], .arr (m.tris.length + 1) 1 (ics I)] (.own 1 (m.tris.length + 1) 0 m.tris.length) = some (isV I) := frz_own rfl (by simp [ics, hil]) (ics_isD I)
          refine ACall_frz (vs := [m.enc, isV I]) ?_ hs1 ?_
          · unfold frzAll
            simp only [List.mapM_cons, List.mapM_nil, hfz]
            rfl
          simp [go_sem]
          by_cases hKI : K = I
          · refine ⟨some (K, false), ⟨hps, fun _ => by rw [hKI]; exact hfix hKI⟩, ?_, ?_⟩
            · simp only; omega
            · simp [go_sem, hKI, killL, vsV, tsV, isV, Mesh.cs]
          · refine ⟨some (K, true), ⟨hps, fun h => by cases h⟩, ?_, ?_⟩
            · simp only; omega
            · simp [go_sem, hKI, killL, vsV, tsV, isV, Mesh.cs]
        · obtain ⟨hL, hlab⟩ := hx
          cases ag
          · have hLab := hlab rfl
            rw [hR L hLab]
            have hLl := hLab.len
            simp [go_sem, Mesh.cs, isV]
            refine AS_loopG [.t 6 1] (α := Nat × List O × List (List V)) (fun p => p.1 ≤ L.length ∧ Held 3 p.2.1 (shsK L p.1) p.2.2 ∧ Flt p.2.1 ∧ (shsK L p.1).length ≤ p.1)
              (fun p => ⟨[(3, isV L), (6, .own 2 ((shsK L p.1).length + 1) 0 (shsK L p.1).length), (31, isV L), (32, .i .i64 L.length), (33, .i .i64 p.1)],
                .dead :: .dead :: .arr ((shsK L p.1).length + 1) 1 p.2.2 :: p.2.1⟩)
              (fun p => L.length - p.1) (0, [], []) ⟨Nat.zero_le _, Held.nil 3, by simp [Flt], by simp [shsK]⟩ ?_ ?_
            · simp [go_sem, isV, shsK]
            · rintro ⟨k, hx, cells⟩ ⟨hk, hH, hF, hkl⟩
              simp only at hk hH hF hkl ⊢
              by_cases hkl : k = L.length
              · subst hkl
                have hfz := held_if (base := [.dead, .dead, .arr ((shsK L L.length).length + 1) 1 cells]) hH rfl
                simp only [List.cons_append, List.nil_append] at hfz
                generalize shsK L L.length = D at *
                simp [go_sem, isV, ref10_Shells.r, DoneF_r]
                rw [hfz]; rfl
              · have hlt : k < L.length := by omega
                have hp : L[k]? = some L[k] := List.getElem?_eq_getElem hlt
                have hst := shsK_succ L k
                have hlow := shK_low hLab k
                generalize hv : L[k] = v at hp
                obtain ⟨_, hp'⟩ := List.getElem?_eq_some_iff.1 hp
                rw [hp] at hst
                by_cases hvk : v = k
                · rw [if_pos (by rw [hvk])] at hst
                  simp (disch := omega) [go_sem, isV, hlt, hp, hp', hvk, wrap64_small]
                  refine AS_loopG [.t 8 1] (α := Nat) (fun j => k ≤ j ∧ j ≤ L.length)
                    (fun j => ⟨[(3, isV L), (6, .own 2 ((shsK L k).length + 1) 0 (shsK L k).length), (7, .i .i64 k), (8, .own (hx.length + 3) ((shK L k j).length + 1) 0 (shK L k j).length), (9, .i .i64 j), (31, isV L), (32, .i .i64 L.length), (33, .i .i64 k)],
                      .dead :: .dead :: .arr ((shsK L k).length + 1) 1 cells :: (hx ++ [.arr ((shK L k j).length + 1) 1 (ics (shK L k j))])⟩)
                    (fun j => L.length - j) k ⟨Nat.le_refl _, by omega⟩ ?_ ?_
                  · rw [hlow]
                    simp [go_sem, isV, ics]
                    exact ⟨hH.cl (by omega), WeakH_app (fun o ho => hF o ho _) (by simp [go_sem])⟩
                  · rintro j ⟨hj1, hj2⟩
                    by_cases hjl : j = L.length
                    · subst hjl
                      generalize shK L k L.length = w at *
                      generalize hls : shsK L k = ls at *
                      have htc : List.take ls.length cells = cells := List.take_of_length_le (by rw [hH.1]; exact Nat.le_refl _)
                      have e4 : hx.length + 3 = 3 + hx.length := by omega
                      have hHs : Held 3 (hx ++ [.arr (w.length + 1) 1 (ics w)]) (ls ++ [w]) (cells ++ [[.own (hx.length + 3) (w.length + 1) 0 w.length]]) := by
                        rw [e4]
                        exact (hH.app _).snoc (by rw [app_get_0]; rfl)
                      have hFs : Flt (hx ++ [.arr (w.length + 1) 1 (ics w)]) := hF.app fun o ho n => by
                        simp at ho
                        subst ho
                        exact ics_cl w n
                      simp (disch := omega) [go_sem, isV, wrap64_small, app_get_r, app_get_0, htc]
                      refine ⟨⟨by have := hH.1; omega, by omega, by omega⟩, k + 1, hx ++ [.arr (w.length + 1) 1 (ics w)], _, ⟨by omega, by rw [hst]; exact hHs, hFs, by rw [hst]; simp only [List.length_append, List.length_cons, List.length_nil]; omega⟩, by omega, by simp, ⟨by rw [hst]; simp, by simp⟩, ⟨⟨by rw [hst]; simp, rfl⟩, hHs.cl (by simp; omega)⟩, ?_⟩
                      have := hFs.WeakH (l := [O.arr 1 1 [[V.own (hx.length + 3) (w.length + 1) 0 w.length]]]) ((hx ++ [O.arr (w.length + 1) 1 (ics w)]).length + 1 + 1 + 1)
                      rwa [List.append_assoc] at this
                    · have hjt : j < L.length := by omega
                      have hq : L[j]? = some L[j] := List.getElem?_eq_getElem hjt
                      have hss := shK_succ L k j
                      generalize L[j] = u at hq
                      obtain ⟨_, hq'⟩ := List.getElem?_eq_some_iff.1 hq
                      rw [hq] at hss
                      have hwl : (shK L k j).length ≤ j := by
                        unfold shK
                        rw [List.length_map]
                        have := List.length_filter_le (fun j => decide (L[j]? = some (k : Int))) (List.range j)
                        simpa using this
                      have htw : List.take (shK L k j).length (ics (shK L k j)) = ics (shK L k j) := List.take_of_length_le (by simp [ics])
                      have hwi : (shK L k j).length ≤ (ics (shK L k j)).length := by simp [ics]
                      by_cases huk : u = k
                      · rw [if_pos (by rw [huk])] at hss
                        have hics : ics (shK L k (j + 1)) = ics (shK L k j) ++ [[.i .i64 (j : Int)]] := by rw [hss]; simp [ics]
                        have hsl : (shK L k (j + 1)).length = (shK L k j).length + 1 := by rw [hss]; simp
                        generalize hw : shK L k j = w at *
                        simp (disch := omega) [go_sem, isV, hjt, hq, hq', huk, wrap64_small, app_get_r, app_get_0, htw, hwi]
                        refine ⟨⟨by omega, by omega⟩, j + 1, ⟨by omega, by omega⟩, by omega, ⟨hsl.symm, by simp⟩, hH.cl (by omega), ?_⟩
                        rw [hics, hsl]
                        exact WeakH_app (fun o ho => hF o ho _) ⟨.inr ⟨rfl, by rw [← hics]; exact ics_cl _ _⟩, trivial⟩
                      · rw [if_neg (by simpa using huk), List.append_nil] at hss
                        generalize hw : shK L k j = w at *
                        simp (disch := omega) [go_sem, isV, hjt, hq, hq', huk, wrap64_small, app_get_r, app_get_0]
                        refine ⟨j + 1, ⟨by omega, by omega⟩, by omega, ⟨by rw [hss], by simp⟩, hH.cl (by omega), ?_⟩
                        rw [hss]
                        exact WeakH_app (fun o ho => hF o ho _) ⟨.inr ⟨rfl, ics_cl _ _⟩, trivial⟩
                · rw [if_neg (by simpa using hvk), List.append_nil] at hst
                  have hvb : (v != (k : Int)) = true := by simpa using hvk
                  simp (disch := omega) [go_sem, isV, hlt, hp, hp', hvk, hvb, wrap64_small]
                  exact ⟨k + 1, hx, cells, ⟨by omega, by rw [hst]; exact hH, hF, by rw [hst]; omega⟩, by omega, Nat.le_refl _, ⟨by rw [hst], by simp⟩, ⟨⟨by rw [hst], rfl⟩, hH.cl (by omega)⟩, hF.WeakH' _⟩
          · have hsp := sprK_ok hL
            have hs1 := hs m L hz hL
            have hps := hL.spread hsp
            have hsl := fun h => hsp.sum hL h
            have hfix : sprK m.tris L m.tris.length = L → IsLab m.tris L := fun h => Spread.fix hL (by rw [h] at hsp; exact hsp)
            generalize sprK m.tris L m.tris.length = K at *
            simp [go_sem, Mesh.cs]
            refine ACall_is hs1 ?_
            simp [go_sem]
            by_cases hKI : K = L
            · refine ⟨some (K, false), ⟨hps, fun _ => by rw [hKI]; exact hfix hKI⟩, ?_, ?_⟩
              · simp only; omega
              · simp [go_sem, hKI, vsV, tsV, isV, Mesh.cs]
            · refine ⟨some (K, true), ⟨hps, fun h => by cases h⟩, ?_, ?_⟩
              · have := hsl hKI; simp only; omega
              · simp [go_sem, hKI, vsV, tsV, isV, Mesh.cs]
    · have hlt : k < m.tris.length := by omega
      have hil := idL_len k
      have hsu := idL_succ k
      have htk : List.take k (ics (idL k)) = ics (idL k) := List.take_of_length_le (by simp [ics, hil])
      have hic : ics (idL (k + 1)) = ics (idL k) ++ [[.i .i64 (k : Int)]] := by rw [hsu]; simp [ics]
      generalize idL k = I at *
      simp (disch := omega) [go_sem, Mesh.cs, hlt, wrap64_small, htk]
      exact ⟨⟨by simp [ics, hil], by omega, by omega⟩, k + 1, by omega, by omega, ⟨rfl, by simp⟩, ⟨rfl, rfl⟩, ⟨rfl, hic.symm⟩, ics_cl _ _⟩
end
end Go.Abs
set_option linter.unusedVariables false
set_option linter.unusedSimpArgs false
namespace Go.Abs

theorem mcs_cl (m : Mesh) (N : Nat) : ∀ x ∈ m.cs, x.cl N = true := by
  intro x hx
  simp [Mesh.cs] at hx
  rcases hx with rfl | rfl <;> rfl
theorem Flt.one {o : O} (h : ∀ n, o.cl n) : Flt [o] := fun x hx n => by simp at hx; subst hx; exact h n
theorem fe_cl (e : P2) (n : Nat) : (O.arr 1 2 [[V.i .i64 e.x, V.i .i64 e.y]]).cl n := by
  intro el hel x hx
  simp at hel; subst hel
  simp at hx; rcases hx with rfl | rfl <;> rfl

theorem nodup_len {α : Type} [BEq α] [LawfulBEq α] : ∀ {A B : List α}, A.Nodup → (∀ a ∈ A, a ∈ B) → A.length ≤ B.length
  | [], _, _, _ => Nat.zero_le _
  | a :: A, B, h, hs => by
    have h1 := List.nodup_cons.1 h
    have h2 := nodup_len (A := A) (B := B.erase a) h1.2 fun b hb => by
      rw [List.mem_erase_of_ne (by rintro rfl; exact h1.1 hb)]
      exact hs b (by simp [hb])
    rw [List.length_erase_of_mem (hs a (by simp))] at h2
    have := List.length_pos_of_mem (hs a (by simp))
    simp only [List.length_cons]
    omega
theorem Part.len {ts : List T3} {D S : List Int} {i : Nat} (h : Part ts D S i) : S.length ≤ ts.length := by
  have h1 := (List.nodup_append.1 h.nodup).2.1
  have h2 := nodup_len (B := (List.range ts.length).map fun (j : Nat) => (j : Int)) h1 fun v hv => by
    obtain ⟨h0, hc⟩ := h.mem v hv
    exact List.mem_map.2 ⟨v.toNat, List.mem_range.2 hc.lt.2, by omega⟩
  simpa using h2
def BfK (ts : List T3) (D S : List Int) (k : Nat) : Prop := ∀ (k' : Nat) (v : Int), k' < k → S[k']? = some v → ∀ j : Nat, adjI ts v.toNat j → (j : Int) ∈ D ++ S
structure BfI (ts : List T3) (D S : List Int) (i k : Nat) (v : Int) (E : List P2) : Prop where
  part : Part ts D S i
  bk : BfK ts D S k
  at_ : S[k]? = some v
  ed : ∀ e ∈ E, ∀ w ∈ usL (allP ts ts.length) e.und, w ∈ D ++ S
theorem mem_more {D S : List Int} {u w : Int} (h : w ∈ D ++ S) : w ∈ D ++ (S ++ [u]) := by
  rcases List.mem_append.1 h with h | h <;> simp [h]
theorem BfI.add {ts : List T3} {D S : List Int} {i k : Nat} {v u : Int} {E : List P2} (h : BfI ts D S i k v E) (hu : 0 ≤ u) (hadj : adjI ts v.toNat u.toNat) (hn : u ∉ D ++ S) : BfI ts D (S ++ [u]) i k v E := by
  have hk := (List.getElem?_eq_some_iff.1 h.at_).1
  refine ⟨h.part.add (List.mem_of_getElem? h.at_) hu hadj hn, fun k' w hk' hw j hj => ?_, by rw [List.getElem?_append_left hk]; exact h.at_, fun e he w hw => mem_more (h.ed e he w hw)⟩
  rw [List.getElem?_append_left (by omega)] at hw
  exact mem_more (h.bk k' w hk' hw j hj)
theorem BfI.more {ts : List T3} {D S : List Int} {i k : Nat} {v : Int} {E : List P2} (h : BfI ts D S i k v E) {e : P2} (ha : ∀ w ∈ usL (allP ts ts.length) e.und, w ∈ D ++ S) : BfI ts D S i k v (E ++ [e]) :=
  ⟨h.part, h.bk, h.at_, fun e' he w hw => by
    rcases List.mem_append.1 he with h1 | h1
    · exact h.ed e' h1 w hw
    · simp at h1; subst h1; exact ha w hw⟩
theorem BfI.next {ts : List T3} {D S : List Int} {i k : Nat} {v : Int} (h : BfI ts D S i k v (edgesOf (tAt ts v.toNat))) : BfK ts D S (k + 1) := fun k' w hk' hw j hj => by
  by_cases hkk : k' = k
  · subst hkk
    rw [h.at_] at hw
    obtain rfl := Option.some.inj hw
    obtain ⟨e, he, hm⟩ := (adj_us hj.lt.1).1 hj
    exact h.ed e he _ hm
  · exact h.bk k' w (by omega) hw j hj
theorem old0 {ts : List T3} {L : List Int} (hL : IsLab ts L) : Old ts L [] 0 :=
  ⟨by simp, fun v => by
    constructor
    · intro h; simp at h
    · rintro ⟨j, _, _, u, h3, h4⟩
      have := (hL.con j u h3).1
      omega⟩

section
variable {P : Program} (hm : P.follows .mixedOrders = true)
include hm

end
end Go.Abs
set_option linter.unusedVariables false
set_option linter.unusedSimpArgs false
namespace Go.Abs

/-- The array of marks after some numbers. -/
structure Mk (ls : List (List Int)) (n : Nat) (A d : List Int) : Prop where
  len : A.length = n
  snd : ∀ (v : Nat) (u : Int), A[v]? = some u → u ≠ 0 → ∃ (r : Nat) (l : List Int), ls[r]? = some l ∧ (v : Int) ∈ l ∧ u = (r : Int) + 1
  iff : ∀ (v : Nat) (u : Int), A[v]? = some u → (u ≠ 0 ↔ (v : Int) ∈ d)
theorem Mk.start (ls : List (List Int)) (n : Nat) : Mk ls n (List.replicate n 0) [] :=
  ⟨by simp, fun v u h hu => by
    have := List.eq_of_mem_replicate (List.mem_of_getElem? h)
    exact absurd this hu, fun v u h => by
    have := List.eq_of_mem_replicate (List.mem_of_getElem? h)
    simp [this]⟩
theorem Mk.add {ls : List (List Int)} {n : Nat} {A d l : List Int} (h : Mk ls n A d) {r v : Nat} (hr : ls[r]? = some l) (hv : (v : Int) ∈ l) (hn : v < n) : Mk ls n (A.set v ((r : Int) + 1)) (d ++ [(v : Int)]) where
  len := by rw [List.length_set, h.len]
  snd w u hw hu := by
    rw [List.getElem?_set] at hw
    split at hw
    · rename_i he; subst he
      rw [if_pos (by rw [h.len]; exact hn)] at hw
      exact ⟨r, l, hr, hv, (Option.some.inj hw).symm⟩
    · exact h.snd w u hw hu
  iff w u hw := by
    rw [List.getElem?_set] at hw
    split at hw
    · rename_i he; subst he
      rw [if_pos (by rw [h.len]; exact hn)] at hw
      have := Option.some.inj hw
      simp; omega
    · rename_i he
      rw [h.iff w u hw]
      simp only [List.mem_append, List.mem_singleton]
      constructor
      · exact .inl
      · rintro (h1 | h1)
        · exact h1
        · omega

section
variable {P : Program} (hm : P.follows .mixedOrders = true)
include hm

end
end Go.Abs
set_option linter.unusedVariables false
set_option linter.unusedSimpArgs false
namespace Go.Abs

theorem rev_rev (e : P2) : e.rev.rev = e := rfl
theorem rev_und (e : P2) : e.rev.und = e.und := by
  unfold P2.rev P2.und
  simp only [P2.mk.injEq]
  exact ⟨Int.min_comm _ _, Int.max_comm _ _⟩
theorem edgesOf_rev (t : T3) : edgesOf t.rev = ((edgesOf t).map P2.rev).reverse := by
  have h1 : edges3 t.rev = ((edges3 t).map P2.rev).reverse := rfl
  have h2 : ((fun e : P2 => decide (e.x ≠ e.y)) ∘ P2.rev) = fun e : P2 => decide (e.x ≠ e.y) := by
    funext e
    show decide (e.y ≠ e.x) = decide (e.x ≠ e.y)
    rw [decide_eq_decide]
    exact ne_comm
  have h3 : ∀ t, edgesOf t = (edges3 t).filter fun e => decide (e.x ≠ e.y) := fun t => rfl
  rw [h3, h3, h1, List.filter_reverse, List.filter_map, h2]
theorem mem_edges_rev {t : T3} {e : P2} : e ∈ edgesOf t.rev ↔ e.rev ∈ edgesOf t := by
  rw [edgesOf_rev, List.mem_reverse, List.mem_map]
  constructor
  · rintro ⟨a, ha, rfl⟩; exact ha
  · intro h; exact ⟨_, h, rfl⟩
end Go.Abs
set_option linter.unusedVariables false
set_option linter.unusedSimpArgs false
namespace Go.Abs

/-- The second list has the first's triangles, each as it was or reversed. -/
structure Fl (ts us : List T3) : Prop where
  len : us.length = ts.length
  at_ : ∀ (i : Nat) (t u : T3), ts[i]? = some t → us[i]? = some u → u = t ∨ u = t.rev
theorem Fl.symm {ts us : List T3} (h : Fl ts us) : Fl us ts :=
  ⟨h.len.symm, fun i t u h1 h2 => by
    rcases h.at_ i u t h2 h1 with h | h
    · exact .inl h.symm
    · exact .inr (by rw [h]; rfl)⟩
theorem Fl.edge {t u : T3} (h : u = t ∨ u = t.rev) {a : P2} (ha : a ∈ edgesOf t) : ∃ b ∈ edgesOf u, b.und = a.und := by
  rcases h with rfl | rfl
  · exact ⟨a, ha, rfl⟩
  · exact ⟨a.rev, mem_edges_rev.2 ha, rev_und a⟩
theorem Fl.adj {ts us : List T3} (h : Fl ts us) {i j : Nat} (ha : adjI ts i j) : adjI us i j := by
  have hl := ha.lt
  obtain ⟨s, t, hs, ht, a, haa, b, hb, hab⟩ := ha
  have h1 : us[i]? = some (us[i]'(by rw [h.len]; exact hl.1)) := List.getElem?_eq_getElem _
  have h2 : us[j]? = some (us[j]'(by rw [h.len]; exact hl.2)) := List.getElem?_eq_getElem _
  obtain ⟨a', ha', e1⟩ := Fl.edge (h.at_ i s _ hs h1) haa
  obtain ⟨b', hb', e2⟩ := Fl.edge (h.at_ j t _ ht h2) hb
  exact ⟨_, _, h1, h2, a', ha', b', hb', by rw [e1, e2]; exact hab⟩
theorem Fl.conn {ts us : List T3} (h : Fl ts us) {i j : Nat} (hc : Conn ts i j) : Conn us i j := by
  induction hc with
  | refl h1 => exact .refl (by rw [h.len]; exact h1)
  | tail _ h2 ih => exact .tail ih (h.adj h2)
theorem Fl.lab {ts us : List T3} (h : Fl ts us) {L : List Int} (hL : IsLab ts L) : IsLab us L where
  len := by rw [hL.len, h.len]
  con i v hv := by
    obtain ⟨h1, h2, h3⟩ := hL.con i v hv
    exact ⟨h1, h2, h.conn h3⟩
  adj i j ha := hL.adj i j (h.symm.adj ha)
theorem Fl.labOf {ts us : List T3} (h : Fl ts us) : labOf us = labOf ts := by
  obtain ⟨L, hL⟩ := lab_ex ts
  rw [labOf_eq hL, labOf_eq (h.lab hL)]
end Go.Abs
set_option linter.unusedVariables false
set_option linter.unusedSimpArgs false
namespace Go.Abs

def mieV (p : Mesh × Int × Int) : V := .t [p.1.enc, .i .i64 p.2.1, .i .i64 p.2.2]
theorem mieV_no (e : Int) : Le (.t [.a [.nil, .nil], .i .i64 0, .i .i64 e]) (mieV (⟨[], []⟩, 0, e)) :=
  .inr ⟨_, _, rfl, rfl, .inr ⟨_, _, rfl, rfl, Le0.nil 3, Le0.nil 3, trivial⟩, Le1.refl _, Le1.refl _, trivial⟩

/-- What is known of the shells. -/
structure ShOk (n : Nat) (shs : List (List Int)) : Prop where
  num : shs.length ≤ n
  len : ∀ sh ∈ shs, sh.length ≤ n
  mem : ∀ sh ∈ shs, ∀ v ∈ sh, 0 ≤ v ∧ v < n
  nodup : shs.flatten.Nodup
theorem shK_nodup2 (L : List Int) (i k : Nat) : (shK L i k).Nodup := by
  have hsh : (shK L i k).Pairwise fun a b => a < b := by
    unfold shK
    rw [List.pairwise_map]
    have h1 : (List.range k).Pairwise (fun a b : Nat => a < b) := List.pairwise_lt_range
    exact (h1.filter _).imp fun {a b : Nat} (h : a < b) => by show (a : Int) < (b : Int); omega
  exact hsh.imp fun h => by omega
theorem mem_shK2 {L : List Int} {i k : Nat} {v : Int} : v ∈ shK L i k ↔ ∃ j : Nat, v = (j : Int) ∧ j < k ∧ L[j]? = some (i : Int) := by
  unfold shK
  rw [List.mem_map]
  constructor
  · rintro ⟨j, hj, rfl⟩
    have hf := List.mem_filter.1 hj
    exact ⟨j, rfl, List.mem_range.1 hf.1, by simpa using hf.2⟩
  · rintro ⟨j, rfl, h1, h2⟩
    exact ⟨j, List.mem_filter.2 ⟨List.mem_range.2 h1, by simpa using h2⟩, rfl⟩
theorem shsK_mem {L : List Int} {k : Nat} {sh : List Int} : sh ∈ shsK L k ↔ ∃ i : Nat, i < k ∧ L[i]? = some (i : Int) ∧ sh = shK L i L.length := by
  unfold shsK
  rw [List.mem_map]
  constructor
  · rintro ⟨i, hi, rfl⟩
    have hf := List.mem_filter.1 hi
    exact ⟨i, List.mem_range.1 hf.1, by simpa using hf.2, rfl⟩
  · rintro ⟨i, h1, h2, rfl⟩
    exact ⟨i, List.mem_filter.2 ⟨List.mem_range.2 h1, by simpa using h2⟩, rfl⟩
theorem shsK_nodup (L : List Int) (k : Nat) : (shsK L k).flatten.Nodup := by
  induction k with
  | zero => simp [shsK]
  | succ k ih =>
    rw [shsK_succ]
    split
    · rw [List.flatten_append, List.nodup_append]
      refine ⟨ih, by simpa using shK_nodup2 L k L.length, fun a ha b hb => ?_⟩
      simp at hb
      obtain ⟨sh, hs, has⟩ := List.mem_flatten.1 ha
      obtain ⟨i, hi, _, rfl⟩ := shsK_mem.1 hs
      obtain ⟨j, rfl, _, hj⟩ := mem_shK2.1 has
      rintro rfl
      obtain ⟨j', hjj, _, hj'⟩ := mem_shK2.1 hb
      obtain rfl : j = j' := by omega
      rw [hj] at hj'
      have := Option.some.inj hj'
      omega
    · simpa using ih
theorem shells_ok {m : Mesh} (hz : m.check = 0) : ShOk m.tris.length m.shells := by
  obtain ⟨L, hL⟩ := lab_ex m.tris
  have hR : m.shells = shsK L m.tris.length := by unfold Mesh.shells; rw [if_pos hz, labOf_eq hL, hL.len]
  rw [hR]
  refine ⟨?_, fun sh hs => ?_, fun sh hs v hv => ?_, shsK_nodup _ _⟩
  · unfold shsK
    rw [List.length_map]
    have := List.length_filter_le (fun (i : Nat) => decide (L[i]? = some (i : Int))) (List.range m.tris.length)
    rwa [List.length_range] at this
  · obtain ⟨i, _, _, rfl⟩ := shsK_mem.1 hs
    unfold shK
    rw [List.length_map]
    have := List.length_filter_le (fun (j : Nat) => decide (L[j]? = some (i : Int))) (List.range L.length)
    rw [List.length_range, hL.len] at this
    rw [hL.len]
    omega
  · obtain ⟨i, _, _, rfl⟩ := shsK_mem.1 hs
    obtain ⟨j, rfl, h1, _⟩ := mem_shK2.1 hv
    rw [hL.len] at h1
    omega
theorem tAt_ok {n : Nat} {ts : List T3} (h : tsOk n ts = true) {i : Nat} (hi : i < ts.length) : (tAt ts i).ok n = true := tsOk_get h (tAt_get hi)
theorem T3.rev_ok {n : Nat} {t : T3} (h : t.ok n = true) : t.rev.ok n = true := by
  obtain ⟨a1, a2, b1, b2, c1, c2⟩ := T3.ok_iff.1 h
  exact T3.ok_iff.2 ⟨a1, a2, c1, c2, b1, b2⟩
end Go.Abs
set_option linter.unusedVariables false
set_option linter.unusedSimpArgs false
namespace Go.Abs

theorem und_two {a b : P2} (h : a.und = b.und) : a = b ∨ a = b.rev := by
  cases a; cases b
  simp only [P2.und, P2.rev, P2.mk.injEq] at h ⊢
  omega
theorem edgesOf_nodup (t : T3) : (edgesOf t).Nodup := by
  have h0 : edgesOf t = (edges3 t).filter fun e => decide (e.x ≠ e.y) := rfl
  rw [h0, List.nodup_iff_pairwise_ne, List.pairwise_filter]
  unfold edges3
  simp only [List.pairwise_cons, List.mem_cons, List.not_mem_nil, or_false, decide_eq_true_eq, ne_eq, false_implies, implies_true, List.Pairwise.nil, and_true, P2.mk.injEq]
  refine ⟨fun x hx h1 h2 => ?_, fun x hx h1 h2 => ?_⟩
  · rcases hx with rfl | rfl
    · simp only [P2.mk.injEq]; simp only at h1 h2; omega
    · simp only [P2.mk.injEq]; simp only at h1 h2; omega
  · subst hx
    simp only [P2.mk.injEq]; simp only at h1 h2; omega
/-- No two triangles use the same directed edge. -/
def Coh (ts : List T3) : Prop := ∀ (i j : Nat) (e : P2), i < ts.length → j < ts.length → e ∈ edgesOf (tAt ts i) → e ∈ edgesOf (tAt ts j) → i = j
theorem tAt_el {ts : List T3} {i : Nat} (h : i < ts.length) : ts[i] = tAt ts i := by
  have := tAt_get h
  rw [List.getElem?_eq_getElem h] at this
  exact Option.some.inj this
theorem coh_iff {ts : List T3} : (alluses ts).Nodup ↔ Coh ts := by
  have h0 : (alluses ts).Nodup ↔ (∀ t ∈ ts, (edgesOf t).Nodup) ∧ ts.Pairwise fun s t => ∀ x ∈ edgesOf s, ∀ y ∈ edgesOf t, x ≠ y := List.pairwise_flatMap
  rw [h0, List.pairwise_iff_getElem]
  constructor
  · rintro ⟨_, h⟩ i j e hi hj h1 h2
    rcases Nat.lt_trichotomy i j with hh | hh | hh
    · exact absurd rfl (h i j hi hj hh e (by rw [tAt_el hi]; exact h1) e (by rw [tAt_el hj]; exact h2))
    · exact hh
    · exact absurd rfl (h j i hj hi hh e (by rw [tAt_el hj]; exact h2) e (by rw [tAt_el hi]; exact h1))
  · intro h
    refine ⟨fun t _ => edgesOf_nodup t, fun i j hi hj hij x hx y hy => ?_⟩
    rintro rfl
    rw [tAt_el hi] at hx
    rw [tAt_el hj] at hy
    have := h i j x hi hj hx hy
    omega
theorem cohB_iff {ts : List T3} : cohB ts = true ↔ Coh ts := by unfold cohB; rw [decide_eq_true_eq]; exact coh_iff
theorem Fl.tat {ts us : List T3} (h : Fl ts us) {i : Nat} (hi : i < ts.length) : tAt us i = tAt ts i ∨ tAt us i = (tAt ts i).rev :=
  h.at_ i _ _ (tAt_get hi) (tAt_get (by rw [h.len]; exact hi))
theorem tAt_ext {us vs : List T3} (hl : us.length = vs.length) (h : ∀ i, i < us.length → tAt us i = tAt vs i) : us = vs := by
  apply List.ext_getElem?
  intro i
  by_cases hi : i < us.length
  · rw [tAt_get hi, tAt_get (by omega), h i hi]
  · rw [List.getElem?_eq_none (by omega), List.getElem?_eq_none (by omega)]
theorem adj_edge {ts : List T3} {i j : Nat} (h : adjI ts i j) : i < ts.length ∧ j < ts.length ∧ ∃ a ∈ edgesOf (tAt ts i), ∃ b ∈ edgesOf (tAt ts j), a.und = b.und := by
  have hl := h.lt
  obtain ⟨s, t, hs, ht, a, ha, b, hb, hab⟩ := h
  rw [tAt_get hl.1] at hs
  rw [tAt_get hl.2] at ht
  obtain rfl := Option.some.inj hs
  obtain rfl := Option.some.inj ht
  exact ⟨hl.1, hl.2, a, ha, b, hb, hab⟩
theorem adjI_of' {ts : List T3} {i j : Nat} (hi : i < ts.length) (hj : j < ts.length) {a b : P2} (ha : a ∈ edgesOf (tAt ts i)) (hb : b ∈ edgesOf (tAt ts j)) (h : a.und = b.und) : adjI ts i j :=
  ⟨_, _, tAt_get hi, tAt_get hj, a, ha, b, hb, h⟩
/-- A coherent orientation that keeps the first triangle of each shell. -/
structure Good (ts us : List T3) (L : List Int) : Prop where
  fl : Fl ts us
  coh : Coh us
  first : ∀ i : Nat, i < ts.length → L[i]? = some (i : Int) → tAt us i = tAt ts i
theorem Good.step {ts us vs : List T3} {L : List Int} (h : Good ts us L) (k : Good ts vs L) {i j : Nat} (ha : adjI ts i j) (he : tAt us i = tAt vs i) : tAt us j = tAt vs j := by
  obtain ⟨hi, hj, a, haa, b, hbb, hab⟩ := adj_edge (h.fl.adj ha)
  rw [h.fl.len] at hi hj
  by_cases hij : i = j
  · subst hij; exact he
  refine Decidable.byContradiction fun hne => ?_
  have hrev : tAt vs j = (tAt us j).rev := by
    rcases h.fl.tat hj with h1 | h1 <;> rcases k.fl.tat hj with h2 | h2
    · exact absurd (h1.trans h2.symm) hne
    · rw [h1, h2]
    · rw [h1, h2]; rfl
    · exact absurd (h1.trans h2.symm) hne
  rcases und_two hab with rfl | hab
  · exact hij (h.coh i j a (by rw [h.fl.len]; exact hi) (by rw [h.fl.len]; exact hj) haa hbb)
  · refine hij (k.coh i j a (by rw [k.fl.len]; exact hi) (by rw [k.fl.len]; exact hj) (by rw [← he]; exact haa) ?_)
    rw [hrev, mem_edges_rev, hab, rev_rev]
    exact hbb
theorem Good.eq {ts us vs : List T3} {L : List Int} (hL : IsLab ts L) (h : Good ts us L) (k : Good ts vs L) : us = vs := by
  refine tAt_ext (by rw [h.fl.len, k.fl.len]) fun j hj => ?_
  rw [h.fl.len] at hj
  have hv : L[j]? = some (L[j]'(by rw [hL.len]; exact hj)) := List.getElem?_eq_getElem _
  generalize L[j]'(by rw [hL.len]; exact hj) = v at hv
  obtain ⟨v0, v1, hc⟩ := hL.con j v hv
  have hvv := hL.conn hc
  rw [hv] at hvv
  have hc' := hc.symm
  have hvl := hc'.lt.1
  have hLv : L[v.toNat]? = some (v.toNat : Int) := by rw [← hvv]; congr 1; omega
  have h0 : tAt us v.toNat = tAt vs v.toNat := by rw [h.first _ hvl hLv, k.first _ hvl hLv]
  clear hv hvv hc hj v1
  induction hc' with
  | refl _ => exact h0
  | tail _ h2 ih => exact h.step k h2 ih
open Classical in
noncomputable def orientL (ts : List T3) : Option (List T3) := if h : ∃ us, Good ts us (labOf ts) then some (Classical.choose h) else none
theorem orientL_some {ts us : List T3} {L : List Int} (hL : IsLab ts L) (h : Good ts us L) : orientL ts = some us := by
  unfold orientL
  rw [labOf_eq hL]
  have hex : ∃ us, Good ts us L := ⟨us, h⟩
  rw [dif_pos hex]
  congr 1
  exact (Classical.choose_spec hex).eq hL h
theorem orientL_none {ts : List T3} {L : List Int} (hL : IsLab ts L) (h : ∀ us, ¬ Good ts us L) : orientL ts = none := by
  unfold orientL
  rw [labOf_eq hL, dif_neg]
  rintro ⟨us, hu⟩
  exact h us hu
theorem orientL_good {ts us : List T3} {L : List Int} (hL : IsLab ts L) (h : orientL ts = some us) : Good ts us L := by
  unfold orientL at h
  rw [labOf_eq hL] at h
  split at h
  · rename_i hex
    obtain rfl := Option.some.inj h
    exact Classical.choose_spec hex
  · simp at h
/-- How many triangles differ. -/
def difN (ts us : List T3) : Nat := ((List.range ts.length).filter fun i => decide (tAt us i ≠ tAt ts i)).length
noncomputable def oriR (m : Mesh) : Mesh × Int × Int :=
  if m.check ≠ 0 then (⟨[], []⟩, 0, m.check) else match orientL m.tris with
  | none => (⟨[], []⟩, 0, 13)
  | some us => (⟨m.verts, us⟩, difN m.tris us, 0)
def OrientC (P : Program) (f : FuncId) : Prop := ∀ m : Mesh, CallIs P f [m.enc] (mieV (oriR m))

theorem tAt_set {us : List T3} {j : Nat} (hj : j < us.length) (i : Nat) (t : T3) : tAt (us.set j t) i = if i = j then t else tAt us i := by
  unfold tAt
  by_cases h : i = j
  · subst h; rw [List.getElem?_set_self hj, if_pos rfl]; rfl
  · rw [List.getElem?_set_ne (fun hh => h hh.symm), if_neg h]
theorem Fl.set {ts us : List T3} (h : Fl ts us) {j : Nat} (hj : j < ts.length) : Fl ts (us.set j (tAt us j).rev) where
  len := by rw [List.length_set, h.len]
  at_ i t u h1 h2 := by
    have hi := (List.getElem?_eq_some_iff.1 h1).1
    have hju : j < us.length := by rw [h.len]; exact hj
    rw [tAt_get (by rw [List.length_set, h.len]; exact hi)] at h2
    rw [tAt_get hi] at h1
    obtain rfl := Option.some.inj h1
    obtain rfl := Option.some.inj h2
    rw [tAt_set hju]
    split
    · rename_i hh; subst hh
      rcases h.tat hj with h3 | h3
      · exact .inr (by rw [h3])
      · exact .inl (by rw [h3]; rfl)
    · exact h.tat hi
theorem Fl.refl (ts : List T3) : Fl ts ts := ⟨rfl, fun i t u h1 h2 => .inl (by rw [h1] at h2; exact (Option.some.inj h2).symm)⟩
theorem difN_self (ts : List T3) : difN ts ts = 0 := by unfold difN; simp
theorem filter_one {n j : Nat} (hj : j < n) {p q : Nat → Bool} (hq : ∀ i, i < n → q i = (if i = j then true else p i)) (hp : p j = false) : ((List.range n).filter q).length = ((List.range n).filter p).length + 1 := by
  induction n with
  | zero => omega
  | succ n ih =>
    rw [List.range_succ, List.filter_append, List.filter_append, List.length_append, List.length_append]
    by_cases h : j = n
    · subst h
      have h1 : (List.range j).filter q = (List.range j).filter p := by
        refine List.filter_congr fun i hi => ?_
        have := List.mem_range.1 hi
        rw [hq i (by omega), if_neg (by omega)]
      rw [h1]
      have h2 := hq j (by omega)
      rw [if_pos rfl] at h2
      simp [h2, hp]
    · have h1 := ih (by omega) fun i hi => hq i (by omega)
      have h2 := hq n (by omega)
      rw [if_neg (fun hh => h hh.symm)] at h2
      rw [h1]
      by_cases h3 : p n = true <;> simp [h2, h3] <;> omega
theorem difN_set {ts us : List T3} (hl : us.length = ts.length) {j : Nat} (hj : j < ts.length) (he : tAt us j = tAt ts j) {t : T3} (hne : t ≠ tAt ts j) : difN ts (us.set j t) = difN ts us + 1 := by
  unfold difN
  refine filter_one hj (fun i hi => ?_) (by simp [he])
  rw [tAt_set (by rw [hl]; exact hj)]
  by_cases h : i = j
  · subst h; simp [hne]
  · simp [h]
/-- What is known while the triangles X have been seen. -/
structure OrI (ts us : List T3) (L X : List Int) (n : Nat) : Prop where
  fl : Fl ts us
  new : ∀ i : Nat, i < ts.length → (i : Int) ∉ X → tAt us i = tAt ts i
  first : ∀ i : Nat, i < ts.length → L[i]? = some (i : Int) → tAt us i = tAt ts i
  num : n ≤ X.length
  good : ∀ vs, Good ts vs L → (∀ i : Nat, i < ts.length → (i : Int) ∈ X → tAt us i = tAt vs i) ∧ n = difN ts us
theorem OrI.start (ts : List T3) (L : List Int) : OrI ts ts L [] 0 :=
  ⟨Fl.refl ts, fun _ _ _ => rfl, fun _ _ _ => rfl, Nat.zero_le _, fun vs h => ⟨by simp, by rw [difN_self]⟩⟩
theorem mem_snoc {X : List Int} {k i : Int} : i ∈ X ++ [k] ↔ i ∈ X ∨ i = k := by simp
theorem OrI.top {ts us : List T3} {L X : List Int} {n : Nat} (h : OrI ts us L X n) {k : Nat} (hk : k < ts.length) (hx : (k : Int) ∉ X) (hL : L[k]? = some (k : Int)) : OrI ts us L (X ++ [(k : Int)]) n where
  fl := h.fl
  new i hi hn := h.new i hi fun hh => hn (mem_snoc.2 (.inl hh))
  first := h.first
  num := by have := h.num; simp; omega
  good vs hv := by
    obtain ⟨h1, h2⟩ := h.good vs hv
    refine ⟨fun i hi hm => ?_, h2⟩
    rcases mem_snoc.1 hm with hm | hm
    · exact h1 i hi hm
    · obtain rfl : i = k := by omega
      rw [h.first i hi hL, hv.first i hi hL]
theorem OrI.keep {ts us : List T3} {L X : List Int} {n : Nat} (h : OrI ts us L X n) {i k : Nat} (hi : i < ts.length) (hk : k < ts.length) (hix : (i : Int) ∈ X) (hx : (k : Int) ∉ X) {e : P2} (he : e ∈ edgesOf (tAt us i)) (hno : e ∉ edgesOf (tAt us k))
    {b : P2} (hb : b ∈ edgesOf (tAt ts k)) (hbe : b.und = e.und) : OrI ts us L (X ++ [(k : Int)]) n where
  fl := h.fl
  new i hi hn := h.new i hi fun hh => hn (mem_snoc.2 (.inl hh))
  first := h.first
  num := by have := h.num; simp; omega
  good vs hv := by
    obtain ⟨h1, h2⟩ := h.good vs hv
    refine ⟨fun j hj hm => ?_, h2⟩
    rcases mem_snoc.1 hm with hm | hm
    · exact h1 j hj hm
    · obtain rfl : j = k := by omega
      have huk := h.new j hj hx
      rw [huk] at hno ⊢
      rcases hv.fl.tat hj with h3 | h3
      · exact h3.symm
      · exfalso
        rcases und_two hbe with rfl | rfl
        · exact hno hb
        · have hij := hv.coh i j e (by rw [hv.fl.len]; exact hi) (by rw [hv.fl.len]; exact hj) (by rw [← h1 i hi hix]; exact he) (by rw [h3, mem_edges_rev]; exact hb)
          subst hij
          exact hx hix
theorem OrI.turn {ts us : List T3} {L X : List Int} {n : Nat} (h : OrI ts us L X n) {i k : Nat} (hi : i < ts.length) (hk : k < ts.length) (hix : (i : Int) ∈ X) (hx : (k : Int) ∉ X) (hL : L[k]? ≠ some (k : Int)) {e : P2} (he : e ∈ edgesOf (tAt us i)) (hye : e ∈ edgesOf (tAt us k)) :
    OrI ts (us.set k (tAt us k).rev) L (X ++ [(k : Int)]) (n + 1) where
  fl := h.fl.set hk
  new j hj hn := by
    rw [tAt_set (by rw [h.fl.len]; exact hk), if_neg (fun hh => hn (mem_snoc.2 (.inr (by omega))))]
    exact h.new j hj fun hh => hn (mem_snoc.2 (.inl hh))
  first j hj hLj := by
    rw [tAt_set (by rw [h.fl.len]; exact hk), if_neg (by rintro rfl; exact hL hLj)]
    exact h.first j hj hLj
  num := by have := h.num; simp; omega
  good vs hv := by
    obtain ⟨h1, h2⟩ := h.good vs hv
    have huk := h.new k hk hx
    have hvk : tAt vs k = (tAt us k).rev := by
      rw [huk] at hye ⊢
      rcases hv.fl.tat hk with h3 | h3
      · exfalso
        have hij := hv.coh i k e (by rw [hv.fl.len]; exact hi) (by rw [hv.fl.len]; exact hk) (by rw [← h1 i hi hix]; exact he) (by rw [h3]; exact hye)
        subst hij
        exact hx hix
      · exact h3
    refine ⟨fun j hj hm => ?_, ?_⟩
    · rw [tAt_set (by rw [h.fl.len]; exact hk)]
      split
      · rename_i hh; subst hh; exact hvk.symm
      · rename_i hh
        rcases mem_snoc.1 hm with hm | hm
        · exact h1 j hj hm
        · omega
    · rw [difN_set h.fl.len hk huk, h2]
      intro hh
      have hij := hv.coh i k e (by rw [hv.fl.len]; exact hi) (by rw [hv.fl.len]; exact hk) (by rw [← h1 i hi hix]; exact he) (by rw [hvk, hh, ← huk]; exact hye)
      subst hij
      exact hx hix
/-- What comes out when all have been seen. -/
theorem OrI.done {ts us : List T3} {L X : List Int} {n : Nat} (hL : IsLab ts L) (h : OrI ts us L X n) (hall : ∀ i : Nat, i < ts.length → (i : Int) ∈ X) :
    (Coh us → orientL ts = some us ∧ n = difN ts us) ∧ (¬ Coh us → orientL ts = none) := by
  constructor
  · intro hc
    have hg : Good ts us L := ⟨h.fl, hc, h.first⟩
    exact ⟨orientL_some hL hg, (h.good us hg).2⟩
  · intro hc
    refine orientL_none hL fun vs hv => hc ?_
    obtain ⟨h1, _⟩ := h.good vs hv
    have : us = vs := tAt_ext (by rw [h.fl.len, hv.fl.len]) fun i hi => by
      rw [h.fl.len] at hi
      exact h1 i hi (hall i hi)
    rw [this]
    exact hv.coh
end Go.Abs
