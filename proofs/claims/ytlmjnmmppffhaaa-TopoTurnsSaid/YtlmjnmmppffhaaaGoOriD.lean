/- What the test of coherence does to values. -/
import Derived.Test.YtlmjnmmppffhaaaGoOriA
set_option linter.unusedVariables false
set_option linter.unusedSimpArgs false
namespace Go.Abs

def alluses (l : List T3) : List P2 := l.flatMap edgesOf
def cohB (l : List T3) : Bool := decide (alluses l).Nodup
def CohC (P : Program) (f : FuncId) : Prop := ∀ l : List T3, l.length ≤ 1000000 → CallIs P f [tsV l] (.b (cohB l))

def asV (p : P2 × Int) : V × V := (.a [.i .i64 p.1.x, .i .i64 p.1.y], .i .i64 p.2)
theorem findE_asV (e : P2) (L : List (P2 × Int)) : findE [1, 1] (.a [.i .i64 e.x, .i .i64 e.y]) (L.map asV) = some ((fnd e L).map fun p => (p.1, .i .i64 p.2)) := findE_as e L
def ones (S : List P2) : List (P2 × Int) := S.map fun e => (e, 1)
theorem fnd_ones_none {e : P2} {S : List P2} (h : e ∉ S) : fnd e (ones S) = none := by
  rw [fnd_none]
  intro p hp
  simp only [ones, List.mem_map] at hp
  obtain ⟨a, ha, rfl⟩ := hp
  rintro rfl
  exact h ha
theorem fnd_ones_some {e : P2} : ∀ {S : List P2}, e ∈ S → ∃ i, fnd e (ones S) = some (i, 1)
  | [], h => by simp at h
  | a :: S, h => by
    by_cases ha : e = a
    · exact ⟨0, by simp [ones, fnd, ha]⟩
    · have : e ∈ S := by simpa [ha] using h
      obtain ⟨i, hi⟩ := fnd_ones_some this
      exact ⟨i + 1, by simp only [ones, List.map_cons, fnd, if_neg ha]; rw [show S.map (fun e => (e, (1 : Int))) = ones S from rfl, hi]; rfl⟩
theorem ones_app (S : List P2) (e : P2) : ones (S ++ [e]) = ones S ++ [(e, 1)] := by simp [ones]
theorem asV_cl (L : List (P2 × Int)) (n : Nat) : ∀ (a b : V) (x : P2) (y : Int), (x, y) ∈ L → asV (x, y) = (a, b) → V.cl n a = true ∧ V.cl n b = true := by
  rintro _ _ x y _ h
  simp only [asV, Prod.mk.injEq] at h
  obtain ⟨rfl, rfl⟩ := h
  exact ⟨rfl, rfl⟩
theorem alluses_succ {l : List T3} {k : Nat} {t : T3} (h : l[k]? = some t) : alluses (l.take (k + 1)) = alluses (l.take k) ++ edgesOf t := by
  simp [alluses, List.take_add_one, h]
theorem alluses_len (l : List T3) (k : Nat) : (alluses (l.take k)).length ≤ 3 * k := by
  induction k with
  | zero => simp [alluses]
  | succ k ih =>
    by_cases hk : k < l.length
    · rw [alluses_succ (List.getElem?_eq_getElem hk), List.length_append]
      have : (edgesOf l[k]).length ≤ 3 := edgesK_le _ 3
      omega
    · rw [List.take_of_length_le (by omega)] at ih ⊢; omega
theorem coh_pre {l : List T3} {k : Nat} {S : List P2} (h : S <+: edgesOf ((l[k]?).getD ⟨0, 0, 0⟩)) (hk : k < l.length) : alluses (l.take k) ++ S <+: alluses l := by
  have h1 : l[k]? = some l[k] := List.getElem?_eq_getElem hk
  rw [h1] at h
  obtain ⟨r, hr⟩ := h
  have h2 : alluses l = alluses (l.take (k + 1)) ++ alluses (l.drop (k + 1)) := by
    rw [alluses, alluses, alluses, ← List.flatMap_append, List.take_append_drop]
  rw [h2, alluses_succ h1, show edgesOf l[k] = S ++ r from hr.symm]
  exact ⟨r ++ alluses (l.drop (k + 1)), by simp⟩

section
variable {P : Program} (hm : P.follows .mixedOrders = true)
include hm

set_option maxHeartbeats 4000000 in
theorem orient_coherent_ok {f fe : FuncId} (hf : FnOk P f (orient_coherent.c fe) orient_coherent.r orient_coherent.n) (he : EdgesC P fe) : CohC P f := by
  intro l hl
  refine PureC.is (pure_of hm hf (Nat.le_of_ble_eq_true rfl) ?_) rfl
  unfold orient_coherent.c
  simp [go_sem, tsV]
  refine AS_loop (α := Nat) (fun k => k ≤ l.length ∧ (alluses (l.take k)).Nodup)
    (fun k => ⟨[(3, .mp 0), (9, tsV l), (10, .i .i64 l.length), (11, .i .i64 k)], [.mp ((ones (alluses (l.take k))).map asV)]⟩)
    (fun k => l.length - k) 0 ⟨by omega, by simp [alluses]⟩ ?_ ?_
  · simp [go_sem, tsV, alluses, ones]
  · rintro k ⟨hk, hnd⟩
    by_cases hkl : k = l.length
    · subst hkl
      simp [go_sem, tsV, orient_coherent.r]
      rw [List.take_length] at hnd
      simp [cohB, hnd]
    · have hlt : k < l.length := by omega
      have hp : l[k]? = some l[k] := List.getElem?_eq_getElem hlt
      generalize l[k] = t at hp
      obtain ⟨_, hp'⟩ := List.getElem?_eq_some_iff.1 hp
      simp [go_sem, tsV, hlt, hp', tcs]
      refine ACall_is (he t) ?_
      have hlen : (edgesOf t).length ≤ 3 := edgesK_le t 3
      simp [go_sem, psV]
      refine AS_loop (α := Nat) (fun j => j ≤ (edgesOf t).length ∧ (alluses (l.take k) ++ (edgesOf t).take j).Nodup)
        (fun j => ⟨[(3, .mp 0), (9, tsV l), (10, .i .i64 l.length), (11, .i .i64 k), (16, psV (edgesOf t)), (17, .i .i64 (edgesOf t).length), (18, .i .i64 j)], [.mp ((ones (alluses (l.take k) ++ (edgesOf t).take j)).map asV)]⟩)
        (fun j => (edgesOf t).length - j) 0 ⟨by omega, by simpa using hnd⟩ ?_ ?_
      · simp [go_sem, tsV, psV]
        exact asV_cl _ 1
      · rintro j ⟨hj, hnd2⟩
        by_cases hjl : j = (edgesOf t).length
        · subst hjl
          simp (disch := omega) [go_sem, tsV, psV, wrap64_small]
          rw [List.take_length] at hnd2
          exact ⟨k + 1, ⟨by omega, by rw [alluses_succ hp]; exact hnd2⟩, by omega, by omega, by rw [alluses_succ hp], asV_cl _ 1⟩
        · have hjlt : j < (edgesOf t).length := by omega
          have hq : (edgesOf t)[j]? = some (edgesOf t)[j] := List.getElem?_eq_getElem hjlt
          have htk : (edgesOf t).take (j + 1) = (edgesOf t).take j ++ [(edgesOf t)[j]] := by rw [List.take_add_one, hq]; rfl
          generalize (edgesOf t)[j] = e at hq htk
          obtain ⟨_, hq'⟩ := List.getElem?_eq_some_iff.1 hq
          have hpre := coh_pre (l := l) (k := k) (S := (edgesOf t).take (j + 1)) (by rw [hp]; exact List.take_prefix _ _) hlt
          rw [htk, ← List.append_assoc] at hpre
          generalize hS : alluses (l.take k) ++ (edgesOf t).take j = S at hnd2 hpre
          by_cases hmem : e ∈ S
          · obtain ⟨i, hi⟩ := fnd_ones_some hmem
            have h1 := findE_asV e (ones S)
            rw [hi] at h1
            simp only [Option.map_some] at h1
            have h3 : findE [1, 1] (V.a [V.i IntKind.i64 e.x, V.i IntKind.i64 e.y]) ((List.map asV (ones S)).set i (V.a [V.i .i64 e.x, V.i .i64 e.y], V.i .i64 2)) = some (some (i, .i .i64 2)) := by
              have := findE_asV e ((ones S).set i (e, 2))
              rw [(fnd_set (n' := 2) hi).2, List.map_set] at this
              exact this
            have hil : i < (ones S).length := (List.getElem?_eq_some_iff.1 (fnd_set (n' := 2) hi).1).1
            have hil' : i < (List.map asV (ones S)).length := by simpa using hil
            have w2 : IntKind.i64.wrap 2 = 2 := rfl
            simp [go_sem, psV, hjlt, hq', pcs, h1, h3, w2, List.getElem?_set_self hil', List.set_set, orient_coherent.r]
            unfold cohB
            rw [decide_eq_false]
            intro hall
            have := hall.sublist hpre.sublist
            rw [List.nodup_append] at this
            exact this.2.2 e hmem e (by simp) rfl
          · have h1 := findE_asV e (ones S)
            rw [fnd_ones_none hmem] at h1
            simp only [Option.map_none] at h1
            have w1 : IntKind.i64.wrap 1 = 1 := rfl
            have h3 : findE [1, 1] (V.a [V.i IntKind.i64 e.x, V.i IntKind.i64 e.y]) (List.map asV (ones S) ++ [(V.a [V.i .i64 e.x, V.i .i64 e.y], V.i .i64 1)]) = some (some ((ones S).length, .i .i64 1)) := by
              have := findE_asV e (ones S ++ [(e, 1)])
              rw [fnd_app (fnd_ones_none hmem), List.map_append] at this
              exact this
            simp [go_sem, psV, hjlt, hq', pcs, h1, h3, w1]
            have hS1 : alluses (l.take k) ++ (edgesOf t).take (j + 1) = S ++ [e] := by rw [htk, ← List.append_assoc, hS]
            refine ⟨j + 1, ⟨by omega, ?_⟩, by omega, ⟨.inr rfl, wrap64_small (by omega) (by omega)⟩, ?_, asV_cl _ 1⟩
            · rw [hS1, List.nodup_append]
              exact ⟨hnd2, by simp, fun a ha b hb => by simp at hb; subst hb; rintro rfl; exact hmem ha⟩
            · rw [hS1, ones_app, List.map_append]; rfl
end
end Go.Abs

