/- Part of the library on which the proof stands: an abstract machine, its values and its soundness against the model; or what functions of the program do to such values. -/
import Derived.Test.YtmgfinibgfjmpaaGoMap
import Derived.Test.YtmgfinibgfjmpaaGoClone
import Derived.Test.YtmgfinibgfjmpaaAbsSN
import Derived.Test.YtmgfinibgfjmpaaAbsX
import Derived.Sort.Statements
set_option linter.unusedVariables false
set_option linter.unusedSimpArgs false
namespace Go.Abs

def edges3 (t : T3) : List P2 := [⟨t.a, t.b⟩, ⟨t.b, t.c⟩, ⟨t.c, t.a⟩]
def edgesK (t : T3) (k : Nat) : List P2 := ((edges3 t).take k).filter fun e => decide (e.x ≠ e.y)
def edgesOf (t : T3) : List P2 := edgesK t 3
def EdgesC (P : Program) (f : FuncId) : Prop := ∀ t : T3, CallIs P f [t.enc] (psV (edgesOf t))

theorem p2_isD (p : P2) : (∀ y ∈ p.cs, y.isD = true) = True := by simp [P2.cs, V.isD]
theorem p2_cl (t : P2) (n : Nat) : (∀ y ∈ t.cs, y.cl n = true) = True := by simp [P2.cs, V.cl, V.cl1, V.cl0]
theorem edgesK_0 (t : T3) : edgesK t 0 = [] := rfl
theorem filt1 (x y : Int) (l : List P2) : (l ++ [(⟨x, y⟩ : P2)]).filter (fun e => decide (e.x ≠ e.y)) = if x = y then l.filter (fun e => decide (e.x ≠ e.y)) else l.filter (fun e => decide (e.x ≠ e.y)) ++ [⟨x, y⟩] := by
  rw [List.filter_append]
  by_cases h : x = y <;> simp [h]
theorem edgesK_1 (t : T3) : edgesK t 1 = if t.a = t.b then edgesK t 0 else edgesK t 0 ++ [⟨t.a, t.b⟩] := filt1 t.a t.b []
theorem edgesK_2 (t : T3) : edgesK t 2 = if t.b = t.c then edgesK t 1 else edgesK t 1 ++ [⟨t.b, t.c⟩] := filt1 t.b t.c [⟨t.a, t.b⟩]
theorem edgesK_3 (t : T3) : edgesK t 3 = if t.c = t.a then edgesK t 2 else edgesK t 2 ++ [⟨t.c, t.a⟩] := filt1 t.c t.a [⟨t.a, t.b⟩, ⟨t.b, t.c⟩]
theorem edgesK_le (t : T3) (k : Nat) : (edgesK t k).length ≤ 3 := by
  refine Nat.le_trans (List.length_filter_le _ _) ?_
  simp [edges3]; omega

section
variable {P : Program} (hm : P.follows .mixedOrders = true)
include hm

set_option maxHeartbeats 4000000 in
theorem orient_edges_ok {f : FuncId} (hf : FnOk P f orient_edges.c orient_edges.r orient_edges.n) : EdgesC P f := by
  intro t
  refine PureC.is (pure_of hm hf (Nat.le_of_ble_eq_true rfl) ?_) rfl
  unfold orient_edges.c
  simp [go_sem, T3.enc, T3.cs]
  have w1 : IntKind.i64.wrap 1 = 1 := rfl
  have w2 : IntKind.i64.wrap 2 = 2 := rfl
  have w3 : IntKind.i64.wrap 3 = 3 := rfl
  refine AS_loopG [.t 3 2] (α := Nat) (fun k => k ≤ 3)
    (fun k => ⟨[(3, .own 1 ((edgesK t k).length + 1) 0 (edgesK t k).length), (21, .a [.i .i64 t.a, .i .i64 t.b, .i .i64 t.b, .i .i64 t.c, .i .i64 t.c, .i .i64 t.a]), (22, .i .i64 k)],
      [.dead, .arr ((edgesK t k).length + 1) 2 ((edgesK t k).map P2.cs)]⟩)
    (fun k => 3 - k) 0 (by omega) ?_ ?_
  · simp [go_sem, edgesK_0]
  · intro k hk
    have hl := edgesK_le t k
    by_cases h3 : k = 3
    · subst h3
      simp [go_sem, orient_edges.r, psV, edgesOf, p2_isD]
    · have : k = 0 ∨ k = 1 ∨ k = 2 := by omega
      rcases this with rfl | rfl | rfl
      · have hs := edgesK_1 t
        generalize hE : edgesK t 0 = E0 at hs hl
        by_cases h : t.a = t.b
        · rw [if_pos h] at hs
          simp [go_sem, h, w1, w2, w3]
          exact ⟨1, by omega, by omega, by simp [hs], by simp [hs], by simp [p2_cl]⟩
        · rw [if_neg h] at hs
          simp [go_sem, h, w1, w2, w3]
          exact ⟨by omega, 1, by omega, by omega, by simp [hs], by simp [hs, pcs, or_imp, forall_and, V.cl, V.cl1, V.cl0]⟩
      · have hs := edgesK_2 t
        generalize hE : edgesK t 1 = E0 at hs hl
        by_cases h : t.b = t.c
        · rw [if_pos h] at hs
          simp [go_sem, h, w1, w2, w3]
          exact ⟨2, by omega, by omega, by simp [hs], by simp [hs], by simp [p2_cl]⟩
        · rw [if_neg h] at hs
          simp [go_sem, h, w1, w2, w3]
          exact ⟨by omega, 2, by omega, by omega, by simp [hs], by simp [hs, pcs, or_imp, forall_and, V.cl, V.cl1, V.cl0]⟩
      · have hs := edgesK_3 t
        generalize hE : edgesK t 2 = E0 at hs hl
        by_cases h : t.c = t.a
        · rw [if_pos h] at hs
          simp [go_sem, h, w1, w2, w3]
          exact ⟨3, by omega, by omega, by simp [hs], by simp [hs], by simp [p2_cl]⟩
        · rw [if_neg h] at hs
          simp [go_sem, h, w1, w2, w3]
          exact ⟨by omega, 3, by omega, by omega, by simp [hs], by simp [hs, pcs, or_imp, forall_and, V.cl, V.cl1, V.cl0]⟩
end
end Go.Abs
set_option linter.unusedVariables false
set_option linter.unusedSimpArgs false
namespace Go.Abs

def alluses (l : List T3) : List P2 := l.flatMap edgesOf
def cohB (l : List T3) : Bool := decide (alluses l).Nodup
def CohC (P : Program) (f : FuncId) : Prop := ∀ l : List T3, l.length ≤ 1000000 → CallIs P f [tsV l] (.b (cohB l))

def asV (p : P2 × Int) : V × V := (.a [.i .i64 p.1.x, .i .i64 p.1.y], .i .i64 p.2)
theorem findE_asV (e : P2) (L : List (P2 × Int)) : findE [1, 1] (.a [.i .i64 e.x, .i .i64 e.y]) (L.map asV) = some ((fnd e L).map fun p => (p.1, .i .i64 p.2)) := findE_as e L
def ones (S : List P2) : List (P2 × Int) := S.map fun e => (e, 1)
theorem fnd_ones_none {e : P2} {S : List P2} (h : e ∉ S) : fnd e (ones S) = none := by
  rw [fnd_none]
  intro p hp
  simp only [ones, List.mem_map] at hp
  obtain ⟨a, ha, rfl⟩ := hp
  rintro rfl
  exact h ha
theorem fnd_ones_some {e : P2} : ∀ {S : List P2}, e ∈ S → ∃ i, fnd e (ones S) = some (i, 1)
  | [], h => by simp at h
  | a :: S, h => by
    by_cases ha : e = a
    · exact ⟨0, by simp [ones, fnd, ha]⟩
    · have : e ∈ S := by simpa [ha] using h
      obtain ⟨i, hi⟩ := fnd_ones_some this
      exact ⟨i + 1, by simp only [ones, List.map_cons, fnd, if_neg ha]; rw [show S.map (fun e => (e, (1 : Int))) = ones S from rfl, hi]; rfl⟩
theorem ones_app (S : List P2) (e : P2) : ones (S ++ [e]) = ones S ++ [(e, 1)] := by simp [ones]
theorem asV_cl (L : List (P2 × Int)) (n : Nat) : ∀ (a b : V) (x : P2) (y : Int), (x, y) ∈ L → asV (x, y) = (a, b) → V.cl n a = true ∧ V.cl n b = true := by
  rintro _ _ x y _ h
  simp only [asV, Prod.mk.injEq] at h
  obtain ⟨rfl, rfl⟩ := h
  exact ⟨rfl, rfl⟩
theorem alluses_succ {l : List T3} {k : Nat} {t : T3} (h : l[k]? = some t) : alluses (l.take (k + 1)) = alluses (l.take k) ++ edgesOf t := by
  simp [alluses, List.take_add_one, h]
theorem alluses_len (l : List T3) (k : Nat) : (alluses (l.take k)).length ≤ 3 * k := by
  induction k with
  | zero => simp [alluses]
  | succ k ih =>
    by_cases hk : k < l.length
    · rw [alluses_succ (List.getElem?_eq_getElem hk), List.length_append]
      have : (edgesOf l[k]).length ≤ 3 := edgesK_le _ 3
      omega
    · rw [List.take_of_length_le (by omega)] at ih ⊢; omega
theorem coh_pre {l : List T3} {k : Nat} {S : List P2} (h : S <+: edgesOf ((l[k]?).getD ⟨0, 0, 0⟩)) (hk : k < l.length) : alluses (l.take k) ++ S <+: alluses l := by
  have h1 : l[k]? = some l[k] := List.getElem?_eq_getElem hk
  rw [h1] at h
  obtain ⟨r, hr⟩ := h
  have h2 : alluses l = alluses (l.take (k + 1)) ++ alluses (l.drop (k + 1)) := by
    rw [alluses, alluses, alluses, ← List.flatMap_append, List.take_append_drop]
  rw [h2, alluses_succ h1, show edgesOf l[k] = S ++ r from hr.symm]
  exact ⟨r ++ alluses (l.drop (k + 1)), by simp⟩

section
variable {P : Program} (hm : P.follows .mixedOrders = true)
include hm

set_option maxHeartbeats 4000000 in
theorem orient_coherent_ok {f fe : FuncId} (hf : FnOk P f (orient_coherent.c fe) orient_coherent.r orient_coherent.n) (he : EdgesC P fe) : CohC P f := by
  intro l hl
  refine PureC.is (pure_of hm hf (Nat.le_of_ble_eq_true rfl) ?_) rfl
  unfold orient_coherent.c
  simp [go_sem, tsV]
  refine AS_loop (α := Nat) (fun k => k ≤ l.length ∧ (alluses (l.take k)).Nodup)
    (fun k => ⟨[(3, .mp 0), (9, tsV l), (10, .i .i64 l.length), (11, .i .i64 k)], [.mp ((ones (alluses (l.take k))).map asV)]⟩)
    (fun k => l.length - k) 0 ⟨by omega, by simp [alluses]⟩ ?_ ?_
  · simp [go_sem, tsV, alluses, ones]
  · rintro k ⟨hk, hnd⟩
    by_cases hkl : k = l.length
    · subst hkl
      simp [go_sem, tsV, orient_coherent.r]
      rw [List.take_length] at hnd
      simp [cohB, hnd]
    · have hlt : k < l.length := by omega
      have hp : l[k]? = some l[k] := List.getElem?_eq_getElem hlt
      generalize l[k] = t at hp
      obtain ⟨_, hp'⟩ := List.getElem?_eq_some_iff.1 hp
      simp [go_sem, tsV, hlt, hp', tcs]
      refine ACall_is (he t) ?_
      have hlen : (edgesOf t).length ≤ 3 := edgesK_le t 3
      simp [go_sem, psV]
      refine AS_loop (α := Nat) (fun j => j ≤ (edgesOf t).length ∧ (alluses (l.take k) ++ (edgesOf t).take j).Nodup)
        (fun j => ⟨[(3, .mp 0), (9, tsV l), (10, .i .i64 l.length), (11, .i .i64 k), (16, psV (edgesOf t)), (17, .i .i64 (edgesOf t).length), (18, .i .i64 j)], [.mp ((ones (alluses (l.take k) ++ (edgesOf t).take j)).map asV)]⟩)
        (fun j => (edgesOf t).length - j) 0 ⟨by omega, by simpa using hnd⟩ ?_ ?_
      · simp [go_sem, tsV, psV]
        exact asV_cl _ 1
      · rintro j ⟨hj, hnd2⟩
        by_cases hjl : j = (edgesOf t).length
        · subst hjl
          simp (disch := omega) [go_sem, tsV, psV, wrap64_small]
          rw [List.take_length] at hnd2
          exact ⟨k + 1, ⟨by omega, by rw [alluses_succ hp]; exact hnd2⟩, by omega, by omega, by rw [alluses_succ hp], asV_cl _ 1⟩
        · have hjlt : j < (edgesOf t).length := by omega
          have hq : (edgesOf t)[j]? = some (edgesOf t)[j] := List.getElem?_eq_getElem hjlt
          have htk : (edgesOf t).take (j + 1) = (edgesOf t).take j ++ [(edgesOf t)[j]] := by rw [List.take_add_one, hq]; rfl
          generalize (edgesOf t)[j] = e at hq htk
          obtain ⟨_, hq'⟩ := List.getElem?_eq_some_iff.1 hq
          have hpre := coh_pre (l := l) (k := k) (S := (edgesOf t).take (j + 1)) (by rw [hp]; exact List.take_prefix _ _) hlt
          rw [htk, ← List.append_assoc] at hpre
          generalize hS : alluses (l.take k) ++ (edgesOf t).take j = S at hnd2 hpre
          by_cases hmem : e ∈ S
          · obtain ⟨i, hi⟩ := fnd_ones_some hmem
            have h1 := findE_asV e (ones S)
            rw [hi] at h1
            simp only [Option.map_some] at h1
            have h3 : findE [1, 1] (V.a [V.i IntKind.i64 e.x, V.i IntKind.i64 e.y]) ((List.map asV (ones S)).set i (V.a [V.i .i64 e.x, V.i .i64 e.y], V.i .i64 2)) = some (some (i, .i .i64 2)) := by
              have := findE_asV e ((ones S).set i (e, 2))
              rw [(fnd_set (n' := 2) hi).2, List.map_set] at this
              exact this
            have hil : i < (ones S).length := (List.getElem?_eq_some_iff.1 (fnd_set (n' := 2) hi).1).1
            have hil' : i < (List.map asV (ones S)).length := by simpa using hil
            have w2 : IntKind.i64.wrap 2 = 2 := rfl
            simp [go_sem, psV, hjlt, hq', pcs, h1, h3, w2, List.getElem?_set_self hil', List.set_set, orient_coherent.r]
            unfold cohB
            rw [decide_eq_false]
            intro hall
            have := hall.sublist hpre.sublist
            rw [List.nodup_append] at this
            exact this.2.2 e hmem e (by simp) rfl
          · have h1 := findE_asV e (ones S)
            rw [fnd_ones_none hmem] at h1
            simp only [Option.map_none] at h1
            have w1 : IntKind.i64.wrap 1 = 1 := rfl
            have h3 : findE [1, 1] (V.a [V.i IntKind.i64 e.x, V.i IntKind.i64 e.y]) (List.map asV (ones S) ++ [(V.a [V.i .i64 e.x, V.i .i64 e.y], V.i .i64 1)]) = some (some ((ones S).length, .i .i64 1)) := by
              have := findE_asV e (ones S ++ [(e, 1)])
              rw [fnd_app (fnd_ones_none hmem), List.map_append] at this
              exact this
            simp [go_sem, psV, hjlt, hq', pcs, h1, h3, w1]
            have hS1 : alluses (l.take k) ++ (edgesOf t).take (j + 1) = S ++ [e] := by rw [htk, ← List.append_assoc, hS]
            refine ⟨j + 1, ⟨by omega, ?_⟩, by omega, ⟨.inr rfl, wrap64_small (by omega) (by omega)⟩, ?_, asV_cl _ 1⟩
            · rw [hS1, List.nodup_append]
              exact ⟨hnd2, by simp, fun a ha b hb => by simp at hb; subst hb; rintro rfl; exact hmem ha⟩
            · rw [hS1, ones_app, List.map_append]; rfl
end
end Go.Abs
set_option linter.unusedVariables false
set_option linter.unusedSimpArgs false
namespace Go.Abs

def topo_undirected.c : C :=
 (.seq
  (.reg [
    ⟨(some 1), none, .box (.t 0)⟩,
    ⟨(some 2), none, .alloc [(.i .i64 0), (.i .i64 0)]⟩])
  (.seq
   (.reg [
     ⟨(some 3), none, .fa 0 (.t 1)⟩,
     ⟨(some 4), none, .ld none (.t 3)⟩,
     ⟨(some 5), none, .fa 1 (.t 1)⟩,
     ⟨(some 6), none, .ld none (.t 5)⟩,
     ⟨(some 7), none, .mn [(.t 4), (.t 6)]⟩,
     ⟨(some 8), none, .fa 0 (.t 1)⟩,
     ⟨(some 9), none, .ld none (.t 8)⟩,
     ⟨(some 10), none, .fa 1 (.t 1)⟩,
     ⟨(some 11), none, .ld none (.t 10)⟩,
     ⟨(some 12), none, .mx [(.t 9), (.t 11)]⟩,
     ⟨(some 13), none, .build [(.i .i64 0), (.i .i64 0)] [(0, 1, (.t 7)), (1, 1, (.t 12))]⟩,
     ⟨none, none, .st 2 (.t 2) (.t 13)⟩])
   .ret))
def topo_undirected.r : List Rr := [.cell 2 (some 2)]
abbrev topo_undirected.n : Nat := 14
end Go.Abs
set_option linter.unusedVariables false
set_option linter.unusedSimpArgs false
namespace Go.Abs

theorem rev_ind {α : Type} {p : List α → Prop} (h0 : p []) (h1 : ∀ E x, p E → p (E ++ [x])) (E : List α) : p E := by
  rw [← E.reverse_reverse]
  induction E.reverse with
  | nil => exact h0
  | cons x l ih => rw [List.reverse_cons]; exact h1 _ _ ih

def val (e : P2) (L : List (P2 × Int)) : Int := match fnd e L with | some (_, n) => n | none => 0

/-- The next of the entries not yet seen: how many are left. -/
def left (n : Nat) (seen : List Nat) : Nat := ((List.range n).filter fun i => !seen.contains i).length
/-- The order of edges. -/
def P2.lt (a b : P2) : Prop := a.x < b.x ∨ (a.x = b.x ∧ a.y < b.y)
instance (a b : P2) : Decidable (P2.lt a b) := by unfold P2.lt; infer_instance
theorem P2.lt_irrefl (a : P2) : ¬ P2.lt a a := by unfold P2.lt; omega
theorem P2.lt_trans {a b c : P2} (h1 : P2.lt a b) (h2 : P2.lt b c) : P2.lt a c := by unfold P2.lt at *; omega
theorem P2.lt_total {a b : P2} (h : ¬ P2.lt a b) (h' : ¬ P2.lt b a) : a = b := by
  unfold P2.lt at *
  have h1 : a.x = b.x := by omega
  have h2 : a.y = b.y := by omega
  cases a; cases b; simp_all
theorem P2.lt_asymm {a b : P2} (h1 : P2.lt a b) : ¬ P2.lt b a := by unfold P2.lt at *; omega

def asc (l : List P2) : Prop := l.Pairwise P2.lt
theorem asc_ext : ∀ {l1 l2 : List P2}, asc l1 → asc l2 → (∀ a, a ∈ l1 ↔ a ∈ l2) → l1 = l2
  | [], [], _, _, _ => rfl
  | [], y :: l2, _, _, h => by have := (h y).2 (by simp); simp at this
  | x :: l1, [], _, _, h => by have := (h x).1 (by simp); simp at this
  | x :: l1, y :: l2, h1, h2, h => by
    have p1 := List.pairwise_cons.1 h1
    have p2 := List.pairwise_cons.1 h2
    have hxy : x = y := by
      rcases List.mem_cons.1 ((h x).1 (by simp)) with h3 | h3
      · exact h3
      · rcases List.mem_cons.1 ((h y).2 (by simp)) with h4 | h4
        · exact h4.symm
        · exact absurd (p2.1 x h3) (P2.lt_asymm (p1.1 y h4))
    subst hxy
    rw [asc_ext p1.2 p2.2 fun a => ?_]
    constructor
    · intro ha
      rcases List.mem_cons.1 ((h a).1 (by simp [ha])) with h3 | h3
      · subst h3; exact absurd (p1.1 a ha) (P2.lt_irrefl a)
      · exact h3
    · intro ha
      rcases List.mem_cons.1 ((h a).2 (by simp [ha])) with h3 | h3
      · subst h3; exact absurd (p2.1 a ha) (P2.lt_irrefl a)
      · exact h3

/-- The ascending list with the members of a list. -/
def insP (e : P2) : List P2 → List P2
  | [] => [e]
  | x :: l => if e = x then x :: l else if P2.lt e x then e :: x :: l else x :: insP e l
theorem mem_insP {e a : P2} : ∀ {l : List P2}, a ∈ insP e l ↔ a = e ∨ a ∈ l
  | [] => by simp [insP]
  | x :: l => by
    simp only [insP]
    split
    · rename_i h; subst h; simp
    · split
      · simp
      · simp [mem_insP]; constructor <;> (rintro (h | h | h) <;> simp [h])
theorem insP_asc {e : P2} : ∀ {l : List P2}, asc l → asc (insP e l)
  | [], _ => by simp [insP, asc]
  | x :: l, h => by
    have hc := List.pairwise_cons.1 h
    simp only [insP]
    split
    · exact h
    · split
      · rename_i h1 h2
        refine List.pairwise_cons.2 ⟨fun b hb => ?_, h⟩
        rcases List.mem_cons.1 hb with rfl | hb
        · exact h2
        · exact P2.lt_trans h2 (hc.1 b hb)
      · rename_i h1 h2
        refine List.pairwise_cons.2 ⟨fun b hb => ?_, insP_asc hc.2⟩
        rcases mem_insP.1 hb with rfl | hb
        · exact Decidable.byContradiction fun h3 => h1 (P2.lt_total h2 h3)
        · exact hc.1 b hb
def ascOf (l : List P2) : List P2 := l.foldr insP []
theorem ascOf_asc (l : List P2) : asc (ascOf l) := by
  induction l with
  | nil => simp [ascOf, asc]
  | cons x l ih => exact insP_asc ih
theorem mem_ascOf {l : List P2} {a : P2} : a ∈ ascOf l ↔ a ∈ l := by
  induction l with
  | nil => simp [ascOf]
  | cons x l ih => simp only [ascOf, List.foldr_cons, mem_insP, List.mem_cons]; rw [← ih]; rfl
end Go.Abs
set_option linter.unusedVariables false
set_option linter.unusedSimpArgs false
namespace Go.Abs

theorem app_get_r (h l : List O) (k : Nat) : (h ++ l)[h.length + k]? = l[k]? := by
  rw [List.getElem?_append_right (by omega)]; congr 1; omega
theorem app_get_0 (h l : List O) : (h ++ l)[h.length]? = l[0]? := app_get_r h l 0
theorem app_set_r (h l : List O) (k : Nat) (o : O) : (h ++ l).set (h.length + k) o = h ++ l.set k o := by
  rw [List.set_append_right _ _ (by omega)]; congr 2; omega
theorem app_set_0 (h l : List O) (o : O) : (h ++ l).set h.length o = h ++ l.set 0 o := app_set_r h l 0 o
theorem WeakH_app {n : Nat} {a b : List O} : ∀ {h : List O}, (∀ o ∈ h, o.cl n) → WeakH n a b → WeakH n (h ++ a) (h ++ b)
  | [], _, hw => hw
  | o :: h, hc, hw => ⟨.inr ⟨rfl, hc o (by simp)⟩, WeakH_app (fun o' ho => hc o' (by simp [ho])) hw⟩

section
variable {P : Program} {h : List O} {n0 : Nat} {js : List Nat} {lg : List (List Nat × List Nat)} {al : List Nat} {K : List Nat × List Nat → V → List O → Prop}

end

section
variable {J : Nat → Prop} {m : List Ent} {w : World}

theorem lt_of_m {id : Nat} {e : Ent} (h : m[id]? = some e) : id < m.length := (List.getElem?_eq_some_iff.1 h).1

theorem RL_cl0 {x : V} {c : Value} (h : RL J m w x c) : x.cl0 m.length = true := by
  cases x <;> simp only [V.cl0] <;> simp only [RL] at h
  case own id g off len => obtain ⟨_, e, he, _⟩ := h; simpa using lt_of_m he
  case p id g el j => obtain ⟨_, e, he, _⟩ := h; simpa using lt_of_m he
  case mp id => obtain ⟨_, e, he, _⟩ := h; simpa using lt_of_m he

theorem RC_cl1 {x : V} {c : Value} (h : RC J m w x c) : x.cl1 m.length = true := by
  cases x
  case f fn caps =>
    obtain ⟨cs, _, hp⟩ := h
    simp only [V.cl1, List.all_eq_true]
    intro x hx
    obtain ⟨i, hi⟩ := List.getElem?_of_mem hx
    have hlt := (List.getElem?_eq_some_iff.1 hi).1
    have hl := hp.1
    exact RL_cl0 (hp.2 i x cs.toList[i] hi (List.getElem?_eq_getElem (by omega)))
  case a cs => exact (show RL J m w (.a cs) c from h).elim
  case t vs => exact (show RL J m w (.t vs) c from h).elim
  all_goals
    simp only [RC] at h
    simp only [V.cl1]
    exact RL_cl0 h

theorem RC_cl {x : V} {c : Value} (h : RC J m w x c) : x.cl m.length = true := by
  cases x
  case a cs => exact (show RL J m w (.a cs) c from h).elim
  case t vs => exact (show RL J m w (.t vs) c from h).elim
  all_goals
    simp only [V.cl]
    exact RC_cl1 h

theorem RA_cl {x : V} {c : Value} (h : RA J m w x c) : x.cl m.length = true := by
  cases x
  case a cs =>
    obtain ⟨arr, _, hp⟩ := h
    simp only [V.cl, List.all_eq_true]
    intro x hx
    obtain ⟨i, hi⟩ := List.getElem?_of_mem hx
    have hlt := (List.getElem?_eq_some_iff.1 hi).1
    have hl := hp.1
    exact RC_cl1 (hp.2 i x arr.toList[i] hi (List.getElem?_eq_getElem (by omega)))
  case t vs => exact (show RC J m w (.t vs) c from h).elim
  case any => rfl
  all_goals
    simp only [RA] at h
    exact RC_cl h

theorem RS_closed {h : List O} (hr : RS J h m w) : ∀ o ∈ h, o.cl h.length := by
  intro o ho
  obtain ⟨id, hid⟩ := List.getElem?_of_mem ho
  have hlt := (List.getElem?_eq_some_iff.1 hid).1
  have hl := hr.len
  have hO := hr.obj id m[id] o (List.getElem?_eq_getElem (by omega)) hid
  rw [← hl]
  cases o with
  | dead => trivial
  | arr g sz els =>
    obtain ⟨_, _, _, hb⟩ := hO
    intro el hel x hx
    obtain ⟨i, hi⟩ := List.getElem?_of_mem hel
    obtain ⟨j, hj⟩ := List.getElem?_of_mem hx
    split at hb
    · obtain ⟨rfl, _⟩ := hb; simp at hi
    · obtain ⟨_, _, c, ty, fz, _, _, _, hc⟩ := hb
      obtain ⟨cv, _, hcv⟩ := hc i el j x hi hj
      exact RC_cl hcv
  | mp es =>
    obtain ⟨_, B, _, ms, _, _, hc⟩ := hO
    intro e he
    obtain ⟨i, hi⟩ := List.getElem?_of_mem he
    obtain ⟨en, _, _, h1, h2⟩ := hc i e.1 e.2 hi
    exact ⟨RA_cl h1, RA_cl h2⟩
  | it mid since seen =>
    obtain ⟨_, _, _, B, _, mb, _, hm⟩ := hO
    intro i hi
    subst hi
    obtain ⟨e', he', _⟩ := hm
    exact lt_of_m he'
end

theorem cl0_mono {x : V} {n k : Nat} (hnk : n ≤ k) (h : x.cl0 n = true) : x.cl0 k = true := by
  cases x <;> simp only [V.cl0, decide_eq_true_eq] at h ⊢ <;> omega
theorem cl1_mono {x : V} {n k : Nat} (hnk : n ≤ k) (h : x.cl1 n = true) : x.cl1 k = true := by
  cases x
  case f fn caps => simp only [V.cl1, List.all_eq_true] at h ⊢; exact fun y hy => cl0_mono hnk (h y hy)
  all_goals
    simp only [V.cl1] at h ⊢
    exact cl0_mono hnk h
theorem cl_mono {x : V} {n k : Nat} (hnk : n ≤ k) (h : x.cl n = true) : x.cl k = true := by
  cases x
  case a cs => simp only [V.cl, List.all_eq_true] at h ⊢; exact fun y hy => cl1_mono hnk (h y hy)
  case t => simp [V.cl] at h
  all_goals
    simp only [V.cl] at h ⊢
    exact cl1_mono hnk h
theorem Ocl_mono {o : O} {n k : Nat} (hnk : n ≤ k) (h : o.cl n) : o.cl k := by
  cases o with
  | dead => trivial
  | arr g sz els => exact fun el hel x hx => cl_mono hnk (h el hel x hx)
  | mp es => exact fun e he => ⟨cl_mono hnk (h e he).1, cl_mono hnk (h e he).2⟩
  | it mid since seen => exact fun i hi => Nat.lt_of_lt_of_le (h i hi) hnk

/-- The caller's objects name none but its own. -/
theorem ACall_closed {P : Program} {f : FuncId} {vs : List V} {h : List O} {R : V → List O → Prop} (hc : (∀ n, h.length ≤ n → ∀ o ∈ h, o.cl n) → ACall P f vs h R) : ACall P f vs h R := by
  intro J m w cargs hr hp
  exact hc (fun n hn o ho => Ocl_mono hn (RS_closed hr o ho)) J m w cargs hr hp
theorem ACall_to {P : Program} {f : FuncId} {vs : List V} {h h0 : List O} {r0 : V} {k : V → List O → Prop} (hc : ACall P f vs h (fun r h' => r = r0 ∧ h' = h0)) (hk : k r0 h0) : ACall P f vs h k :=
  hc.mono fun r h' hh => by rw [hh.1, hh.2]; exact hk
end Go.Abs
set_option linter.unusedVariables false
set_option linter.unusedSimpArgs false
namespace Go.Abs
open Go.Sort

instance : Inhabited P2 := ⟨⟨0, 0⟩⟩
def P2.rev (e : P2) : P2 := ⟨e.y, e.x⟩
def P2.und (e : P2) : P2 := ⟨min e.x e.y, max e.x e.y⟩
def UndC (P : Program) (f : FuncId) : Prop := ∀ e : P2, CallIs P f [e.enc] e.und.enc
section
variable {P : Program} (hm : P.follows .mixedOrders = true)
include hm

theorem topo_undirected_ok {f : FuncId} (hf : FnOk P f topo_undirected.c topo_undirected.r topo_undirected.n) : UndC P f := by
  intro e
  refine PureC.is (pure_of hm hf (Nat.le_of_ble_eq_true rfl) ?_) rfl
  unfold topo_undirected.c
  simp [go_sem, P2.enc, P2.cs, topo_undirected.r, P2.und, min_if, max_if]
end
end Go.Abs
set_option linter.unusedVariables false
set_option linter.unusedSimpArgs false
namespace Go.Abs

abbrev Use := P2 × Int
def uCs (u : Use) : List V := [.i .i64 u.1.x, .i .i64 u.1.y, .i .i64 u.2]
def useV (l : List Use) : V := .l 3 (l.map uCs)
def ascU (l : List Use) : Prop := l.Pairwise fun a b => P2.lt a.1 b.1
/-- The place of an edge: how many come before it. -/
def pl (l : List Use) (e : P2) : Nat := l.countP fun u => decide (P2.lt u.1 e)
theorem pl_le (l : List Use) (e : P2) : pl l e ≤ l.length := List.countP_le_length
theorem pl_spec {e : P2} : ∀ {l : List Use}, ascU l → ∀ {j : Nat} {u : Use}, l[j]? = some u → (P2.lt u.1 e ↔ j < pl l e)
  | [], _, j, u, h => by simp at h
  | x :: r, ha, j, u, h => by
    have hc := List.pairwise_cons.1 ha
    by_cases hx : P2.lt x.1 e
    · have hp : pl (x :: r) e = pl r e + 1 := by simp [pl, List.countP_cons, hx]
      cases j with
      | zero => simp at h; subst h; simp [hp, hx]
      | succ j => simp at h; rw [pl_spec hc.2 h, hp]; omega
    · have h0 : pl r e = 0 := by
        unfold pl
        rw [List.countP_eq_zero]
        intro v hv
        simp only [decide_eq_true_eq]
        exact fun h1 => hx (P2.lt_trans (hc.1 v hv) h1)
      have hp : pl (x :: r) e = 0 := by unfold pl at h0 ⊢; simp [List.countP_cons, hx, h0]
      rw [hp]
      simp only [Nat.not_lt_zero, iff_false]
      cases j with
      | zero => simp at h; subst h; exact hx
      | succ j =>
        simp at h
        rw [pl_spec hc.2 h, h0]; omega
theorem pl_found {l : List Use} (h : ascU l) {j : Nat} {e : P2} {n : Int} (hj : l[j]? = some (e, n)) : pl l e = j := by
  have h1 : ¬ j < pl l e := fun hh => P2.lt_irrefl e ((pl_spec h hj).2 hh)
  have hjl := (List.getElem?_eq_some_iff.1 hj).1
  refine Decidable.byContradiction fun hne => ?_
  have hlt : pl l e < j := by omega
  have h2 : l[pl l e]? = some l[pl l e] := List.getElem?_eq_getElem (by omega)
  have h3 := List.pairwise_iff_getElem.1 h (pl l e) j (by omega) hjl hlt
  obtain ⟨_, hj2⟩ := List.getElem?_eq_some_iff.1 hj
  rw [hj2] at h3
  have : pl l e < pl l e := (pl_spec h h2).1 h3
  omega
/-- The number of an edge, or 0. -/
def numU (l : List Use) (e : P2) : Int := match l[pl l e]? with | some u => if u.1 = e then u.2 else 0 | none => 0
def hasU (l : List Use) (e : P2) : Bool := match l[pl l e]? with | some u => decide (u.1 = e) | none => false
theorem hasU_iff {l : List Use} (h : ascU l) {e : P2} : hasU l e = true ↔ ∃ n, (e, n) ∈ l := by
  unfold hasU
  constructor
  · intro h1
    split at h1
    · rename_i u hu
      simp only [decide_eq_true_eq] at h1
      subst h1
      exact ⟨u.2, List.mem_of_getElem? hu⟩
    · simp at h1
  · rintro ⟨n, hn⟩
    obtain ⟨j, hj⟩ := List.getElem?_of_mem hn
    rw [pl_found h hj, hj]; simp
theorem numU_of {l : List Use} (h : ascU l) {e : P2} {n : Int} (hn : (e, n) ∈ l) : numU l e = n := by
  obtain ⟨j, hj⟩ := List.getElem?_of_mem hn
  unfold numU
  rw [pl_found h hj, hj]; simp
theorem numU_none {l : List Use} {e : P2} (hn : ∀ n, (e, n) ∉ l) : numU l e = 0 := by
  unfold numU
  split
  · rename_i u hu
    split
    · rename_i h1
      subst h1
      exact absurd (List.mem_of_getElem? hu) (hn u.2)
    · rfl
  · rfl
def withU (l : List Use) (e : P2) : List Use := if hasU l e then l else l.take (pl l e) ++ (e, 0) :: l.drop (pl l e)
theorem mem_withU {l : List Use} (h : ascU l) {e : P2} {u : Use} : u ∈ withU l e ↔ u ∈ l ∨ (u = (e, 0) ∧ hasU l e = false) := by
  unfold withU
  cases hh : hasU l e
  · simp only [Bool.false_eq_true, if_false, List.mem_append, List.mem_cons, and_true]
    have : u ∈ l ↔ u ∈ l.take (pl l e) ∨ u ∈ l.drop (pl l e) := by rw [← List.mem_append, List.take_append_drop]
    rw [this]
    constructor
    · rintro (h1 | h1 | h1) <;> simp [h1]
    · rintro ((h1 | h1) | h1) <;> simp [h1]
  · simp
theorem withU_asc {l : List Use} (h : ascU l) (e : P2) : ascU (withU l e) := by
  unfold withU
  cases hh : hasU l e
  · simp only [Bool.false_eq_true, if_false]
    have h' : ascU (l.take (pl l e) ++ l.drop (pl l e)) := by rw [List.take_append_drop]; exact h
    have hp := List.pairwise_append.1 h'
    have hlow : ∀ u ∈ l.take (pl l e), P2.lt u.1 e := by
      intro u hu
      obtain ⟨j, hj⟩ := List.getElem?_of_mem hu
      rw [List.getElem?_take] at hj
      split at hj
      · rename_i hjl
        exact (pl_spec h hj).2 hjl
      · simp at hj
    have hhigh : ∀ u ∈ l.drop (pl l e), P2.lt e u.1 := by
      intro u hu
      obtain ⟨j, hj⟩ := List.getElem?_of_mem hu
      rw [List.getElem?_drop] at hj
      refine Decidable.byContradiction fun hc => ?_
      have h1 : ¬ P2.lt u.1 e := fun h2 => by have := (pl_spec h hj).1 h2; omega
      have h2 : u.1 = e := (P2.lt_total h1 hc)
      have h3 : hasU l e = true := (hasU_iff h).2 ⟨u.2, by rw [← h2]; exact List.mem_of_getElem? hj⟩
      rw [hh] at h3; cases h3
    unfold ascU
    rw [List.pairwise_append]
    refine ⟨hp.1, List.pairwise_cons.2 ⟨hhigh, hp.2.1⟩, fun a ha b hb => ?_⟩
    rcases List.mem_cons.1 hb with rfl | hb
    · exact hlow a ha
    · exact hp.2.2 a ha b hb
  · simpa using h
/-- The list counts these edges. -/
def Cnt (L : List Use) (E : List P2) : Prop := ascU L ∧ ∀ e n, (e, n) ∈ L ↔ e ∈ E ∧ n = E.count e
theorem Cnt.nil : Cnt [] [] := ⟨by simp [ascU], by simp⟩
theorem Cnt.has {L : List Use} {E : List P2} (h : Cnt L E) (e : P2) : hasU L e = true ↔ e ∈ E := by
  rw [hasU_iff h.1]
  constructor
  · rintro ⟨n, hn⟩; exact ((h.2 e n).1 hn).1
  · intro he; exact ⟨_, (h.2 e _).2 ⟨he, rfl⟩⟩
theorem Cnt.num {L : List Use} {E : List P2} (h : Cnt L E) (e : P2) : numU L e = E.count e := by
  by_cases he : e ∈ E
  · exact numU_of h.1 ((h.2 e _).2 ⟨he, rfl⟩)
  · rw [numU_none fun n hn => he ((h.2 e n).1 hn).1, List.count_eq_zero.2 he]; rfl
theorem nodupP_len : ∀ {l k : List P2}, l.Nodup → (∀ a ∈ l, a ∈ k) → l.length ≤ k.length
  | [], k, _, _ => by simp
  | x :: l, k, hn, hs => by
    have hc := List.nodup_cons.1 hn
    have hx := hs x (by simp)
    have := nodupP_len (l := l) (k := k.erase x) hc.2 (fun a ha => by
      have hne : a ≠ x := by rintro rfl; exact hc.1 ha
      exact (List.mem_erase_of_ne hne).2 (hs a (by simp [ha])))
    rw [List.length_erase_of_mem hx] at this
    have := List.length_pos_of_mem hx
    simp only [List.length_cons]; omega
theorem Cnt.nodup {L : List Use} {E : List P2} (h : Cnt L E) : (L.map Prod.fst).Nodup := by
  show List.Pairwise _ _
  rw [List.pairwise_map]
  exact h.1.imp fun h1 h2 => by rw [h2] at h1; exact P2.lt_irrefl _ h1
theorem Cnt.len {L : List Use} {E : List P2} (h : Cnt L E) : L.length ≤ E.length := by
  have := nodupP_len h.nodup (k := E) fun e he => by
    obtain ⟨u, hu, rfl⟩ := List.mem_map.1 he
    exact ((h.2 u.1 u.2).1 hu).1
  simpa using this
end Go.Abs
