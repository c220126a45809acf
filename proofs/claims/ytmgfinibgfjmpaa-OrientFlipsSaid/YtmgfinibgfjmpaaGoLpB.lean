/- Part of the library on which the proof stands: an abstract machine, its values and its soundness against the model; or what functions of the program do to such values. -/
import Derived.Test.YtmgfinibgfjmpaaGoOriA
import Derived.Test.YtmgfinibgfjmpaaAbsSN
import Derived.Test.YtmgfinibgfjmpaaGoClone
set_option linter.unusedVariables false
set_option linter.unusedSimpArgs false
namespace Go.Abs

def alluses (l : List T3) : List P2 := l.flatMap edgesOf
def cohB (l : List T3) : Bool := decide (alluses l).Nodup
def CohC (P : Program) (f : FuncId) : Prop := ∀ l : List T3, l.length ≤ 1000000 → CallIs P f [tsV l] (.b (cohB l))

def asV (p : P2 × Int) : V × V := (.a [.i .i64 p.1.x, .i .i64 p.1.y], .i .i64 p.2)
theorem findE_asV (e : P2) (L : List (P2 × Int)) : findE [1, 1] (.a [.i .i64 e.x, .i .i64 e.y]) (L.map asV) = some ((fnd e L).map fun p => (p.1, .i .i64 p.2)) := findE_as e L
def ones (S : List P2) : List (P2 × Int) := S.map fun e => (e, 1)
theorem fnd_ones_none {e : P2} {S : List P2} (h : e ∉ S) : fnd e (ones S) = none := by
  rw [fnd_none]
  intro p hp
  simp only [ones, List.mem_map] at hp
  obtain ⟨a, ha, rfl⟩ := hp
  rintro rfl
  exact h ha
theorem fnd_ones_some {e : P2} : ∀ {S : List P2}, e ∈ S → ∃ i, fnd e (ones S) = some (i, 1)
  | [], h => by simp at h
  | a :: S, h => by
    by_cases ha : e = a
    · exact ⟨0, by simp [ones, fnd, ha]⟩
    · have : e ∈ S := by simpa [ha] using h
      obtain ⟨i, hi⟩ := fnd_ones_some this
      exact ⟨i + 1, by simp only [ones, List.map_cons, fnd, if_neg ha]; rw [show S.map (fun e => (e, (1 : Int))) = ones S from rfl, hi]; rfl⟩
theorem ones_app (S : List P2) (e : P2) : ones (S ++ [e]) = ones S ++ [(e, 1)] := by simp [ones]
theorem asV_cl (L : List (P2 × Int)) (n : Nat) : ∀ (a b : V) (x : P2) (y : Int), (x, y) ∈ L → asV (x, y) = (a, b) → V.cl n a = true ∧ V.cl n b = true := by
  rintro _ _ x y _ h
  simp only [asV, Prod.mk.injEq] at h
  obtain ⟨rfl, rfl⟩ := h
  exact ⟨rfl, rfl⟩
theorem alluses_succ {l : List T3} {k : Nat} {t : T3} (h : l[k]? = some t) : alluses (l.take (k + 1)) = alluses (l.take k) ++ edgesOf t := by
  simp [alluses, List.take_add_one, h]
theorem coh_pre {l : List T3} {k : Nat} {S : List P2} (h : S <+: edgesOf ((l[k]?).getD ⟨0, 0, 0⟩)) (hk : k < l.length) : alluses (l.take k) ++ S <+: alluses l := by
  have h1 : l[k]? = some l[k] := List.getElem?_eq_getElem hk
  rw [h1] at h
  obtain ⟨r, hr⟩ := h
  have h2 : alluses l = alluses (l.take (k + 1)) ++ alluses (l.drop (k + 1)) := by
    rw [alluses, alluses, alluses, ← List.flatMap_append, List.take_append_drop]
  rw [h2, alluses_succ h1, show edgesOf l[k] = S ++ r from hr.symm]
  exact ⟨r ++ alluses (l.drop (k + 1)), by simp⟩

section
variable {P : Program} (hm : P.follows .mixedOrders = true)
include hm

set_option maxHeartbeats 4000000 in
theorem orient_coherent_ok {f fe : FuncId} (hf : FnOk P f (orient_coherent.c fe) orient_coherent.r orient_coherent.n) (he : EdgesC P fe) : CohC P f := by
  intro l hl
  refine PureC.is (pure_of hm hf (Nat.le_of_ble_eq_true rfl) ?_) rfl
  unfold orient_coherent.c
  simp [go_sem, tsV]
  refine AS_loop (α := Nat) (fun k => k ≤ l.length ∧ (alluses (l.take k)).Nodup)
    (fun k => ⟨[(3, .mp 0), (9, tsV l), (10, .i .i64 l.length), (11, .i .i64 k)], [.mp ((ones (alluses (l.take k))).map asV)]⟩)
    (fun k => l.length - k) 0 ⟨by omega, by simp [alluses]⟩ ?_ ?_
  · simp [go_sem, tsV, alluses, ones]
  · rintro k ⟨hk, hnd⟩
    by_cases hkl : k = l.length
    · subst hkl
      simp [go_sem, tsV, orient_coherent.r]
      rw [List.take_length] at hnd
      simp [cohB, hnd]
    · have hlt : k < l.length := by omega
      have hp : l[k]? = some l[k] := List.getElem?_eq_getElem hlt
      generalize l[k] = t at hp
      obtain ⟨_, hp'⟩ := List.getElem?_eq_some_iff.1 hp
      simp [go_sem, tsV, hlt, hp', tcs]
      refine ACall_is (he t) ?_
      have hlen : (edgesOf t).length ≤ 3 := edgesK_le t 3
      simp [go_sem, psV]
      refine AS_loop (α := Nat) (fun j => j ≤ (edgesOf t).length ∧ (alluses (l.take k) ++ (edgesOf t).take j).Nodup)
        (fun j => ⟨[(3, .mp 0), (9, tsV l), (10, .i .i64 l.length), (11, .i .i64 k), (16, psV (edgesOf t)), (17, .i .i64 (edgesOf t).length), (18, .i .i64 j)], [.mp ((ones (alluses (l.take k) ++ (edgesOf t).take j)).map asV)]⟩)
        (fun j => (edgesOf t).length - j) 0 ⟨by omega, by simpa using hnd⟩ ?_ ?_
      · simp [go_sem, tsV, psV]
        exact asV_cl _ 1
      · rintro j ⟨hj, hnd2⟩
        by_cases hjl : j = (edgesOf t).length
        · subst hjl
          simp (disch := omega) [go_sem, tsV, psV, wrap64_small]
          rw [List.take_length] at hnd2
          exact ⟨k + 1, ⟨by omega, by rw [alluses_succ hp]; exact hnd2⟩, by omega, by omega, by rw [alluses_succ hp], asV_cl _ 1⟩
        · have hjlt : j < (edgesOf t).length := by omega
          have hq : (edgesOf t)[j]? = some (edgesOf t)[j] := List.getElem?_eq_getElem hjlt
          have htk : (edgesOf t).take (j + 1) = (edgesOf t).take j ++ [(edgesOf t)[j]] := by rw [List.take_add_one, hq]; rfl
          generalize (edgesOf t)[j] = e at hq htk
          obtain ⟨_, hq'⟩ := List.getElem?_eq_some_iff.1 hq
          have hpre := coh_pre (l := l) (k := k) (S := (edgesOf t).take (j + 1)) (by rw [hp]; exact List.take_prefix _ _) hlt
          rw [htk, ← List.append_assoc] at hpre
          generalize hS : alluses (l.take k) ++ (edgesOf t).take j = S at hnd2 hpre
          by_cases hmem : e ∈ S
          · obtain ⟨i, hi⟩ := fnd_ones_some hmem
            have h1 := findE_asV e (ones S)
            rw [hi] at h1
            simp only [Option.map_some] at h1
            have h3 : findE [1, 1] (V.a [V.i IntKind.i64 e.x, V.i IntKind.i64 e.y]) ((List.map asV (ones S)).set i (V.a [V.i .i64 e.x, V.i .i64 e.y], V.i .i64 2)) = some (some (i, .i .i64 2)) := by
              have := findE_asV e ((ones S).set i (e, 2))
              rw [(fnd_set (n' := 2) hi).2, List.map_set] at this
              exact this
            have hil : i < (ones S).length := (List.getElem?_eq_some_iff.1 (fnd_set (n' := 2) hi).1).1
            have hil' : i < (List.map asV (ones S)).length := by simpa using hil
            have w2 : IntKind.i64.wrap 2 = 2 := rfl
            simp [go_sem, psV, hjlt, hq', pcs, h1, h3, w2, List.getElem?_set_self hil', List.set_set, orient_coherent.r]
            unfold cohB
            rw [decide_eq_false]
            intro hall
            have := hall.sublist hpre.sublist
            rw [List.nodup_append] at this
            exact this.2.2 e hmem e (by simp) rfl
          · have h1 := findE_asV e (ones S)
            rw [fnd_ones_none hmem] at h1
            simp only [Option.map_none] at h1
            have w1 : IntKind.i64.wrap 1 = 1 := rfl
            have h3 : findE [1, 1] (V.a [V.i IntKind.i64 e.x, V.i IntKind.i64 e.y]) (List.map asV (ones S) ++ [(V.a [V.i .i64 e.x, V.i .i64 e.y], V.i .i64 1)]) = some (some ((ones S).length, .i .i64 1)) := by
              have := findE_asV e (ones S ++ [(e, 1)])
              rw [fnd_app (fnd_ones_none hmem), List.map_append] at this
              exact this
            simp [go_sem, psV, hjlt, hq', pcs, h1, h3, w1]
            have hS1 : alluses (l.take k) ++ (edgesOf t).take (j + 1) = S ++ [e] := by rw [htk, ← List.append_assoc, hS]
            refine ⟨j + 1, ⟨by omega, ?_⟩, by omega, ⟨.inr rfl, wrap64_small (by omega) (by omega)⟩, ?_, asV_cl _ 1⟩
            · rw [hS1, List.nodup_append]
              exact ⟨hnd2, by simp, fun a ha b hb => by simp at hb; subst hb; rintro rfl; exact hmem ha⟩
            · rw [hS1, ones_app, List.map_append]; rfl
end
end Go.Abs
set_option linter.unusedVariables false
set_option linter.unusedSimpArgs false
namespace Go.Abs

def topo_edges.c : C :=
 (.seq
  (.reg [
    ⟨(some 1), none, .box (.t 0)⟩,
    ⟨(some 2), none, .mv (.c .nil)⟩])
  (.seq
   (.reg [
     ⟨(some 3), none, .mv (.c .nil)⟩])
   (.seq
    (.seq
     (.reg [
       ⟨(some 6), none, .fa 0 (.t 1)⟩,
       ⟨(some 7), none, .ld none (.t 6)⟩,
       ⟨(some 8), none, .fa 1 (.t 1)⟩,
       ⟨(some 9), none, .ld none (.t 8)⟩,
       ⟨(some 10), none, .build [(.i .i64 0), (.i .i64 0)] [(0, 1, (.t 7)), (1, 1, (.t 9))]⟩,
       ⟨(some 11), none, .fa 1 (.t 1)⟩,
       ⟨(some 12), none, .ld none (.t 11)⟩,
       ⟨(some 13), none, .fa 2 (.t 1)⟩,
       ⟨(some 14), none, .ld none (.t 13)⟩,
       ⟨(some 15), none, .build [(.i .i64 0), (.i .i64 0)] [(0, 1, (.t 12)), (1, 1, (.t 14))]⟩,
       ⟨(some 16), none, .fa 2 (.t 1)⟩,
       ⟨(some 17), none, .ld none (.t 16)⟩,
       ⟨(some 18), none, .fa 0 (.t 1)⟩,
       ⟨(some 19), none, .ld none (.t 18)⟩,
       ⟨(some 20), none, .build [(.i .i64 0), (.i .i64 0)] [(0, 1, (.t 17)), (1, 1, (.t 19))]⟩,
       ⟨(some 21), none, .build [(.i .i64 0), (.i .i64 0), (.i .i64 0), (.i .i64 0), (.i .i64 0), (.i .i64 0)] [(0, 2, (.t 10)), (2, 2, (.t 15)), (4, 2, (.t 20))]⟩,
       ⟨(some 22), none, .mv (.c (.i .i64 0))⟩])
     (.blk 0
      (.loop
       (.seq
        (.reg [
          ⟨(some 23), none, .bin .lss (.t 22) (.c (.i .i64 3))⟩])
        (.seq
         (.ite (.t 23)
          .skip
          (.exit 0))
         (.seq
          (.blk 1
           (.seq
            (.reg [
              ⟨(some 24), none, .ix 3 2 (some 2) (.t 21) (.t 22)⟩,
              ⟨(some 5), none, .alloc [(.i .i64 0), (.i .i64 0)]⟩,
              ⟨none, none, .st 2 (.t 5) (.t 24)⟩])
            (.seq
             (.reg [
               ⟨(some 25), none, .fa 0 (.t 5)⟩,
               ⟨(some 26), none, .ld none (.t 25)⟩,
               ⟨(some 27), none, .fa 1 (.t 5)⟩,
               ⟨(some 28), none, .ld none (.t 27)⟩,
               ⟨(some 29), none, .bin .neq (.t 26) (.t 28)⟩])
             (.ite (.t 29)
              (.reg [
                ⟨(some 30), none, .mv (.t 3)⟩,
                ⟨(some 31), none, .ld (some 2) (.t 5)⟩,
                ⟨(some 32), none, .bsi 2 1 [(.i .i64 0), (.i .i64 0)] [(0, (.t 31))]⟩,
                ⟨(some 33), none, .app 2 16 (.t 30) (.t 32)⟩,
                ⟨(some 3), none, .mv (.t 33)⟩])
              .skip))))
          (.reg [
            ⟨(some 34), none, .bin .add (.t 22) (.c (.i .i64 1))⟩,
            ⟨(some 22), none, .mv (.t 34)⟩])))))))
    (.seq
     (.reg [
       ⟨(some 35), none, .mv (.t 3)⟩,
       ⟨(some 2), none, .mv (.t 35)⟩])
     .ret))))
def topo_edges.r : List Rr := [.tmp 2]
abbrev topo_edges.n : Nat := 36
def topo_undirected.c : C :=
 (.seq
  (.reg [
    ⟨(some 1), none, .box (.t 0)⟩,
    ⟨(some 2), none, .alloc [(.i .i64 0), (.i .i64 0)]⟩])
  (.seq
   (.reg [
     ⟨(some 3), none, .fa 0 (.t 1)⟩,
     ⟨(some 4), none, .ld none (.t 3)⟩,
     ⟨(some 5), none, .fa 1 (.t 1)⟩,
     ⟨(some 6), none, .ld none (.t 5)⟩,
     ⟨(some 7), none, .mn [(.t 4), (.t 6)]⟩,
     ⟨(some 8), none, .fa 0 (.t 1)⟩,
     ⟨(some 9), none, .ld none (.t 8)⟩,
     ⟨(some 10), none, .fa 1 (.t 1)⟩,
     ⟨(some 11), none, .ld none (.t 10)⟩,
     ⟨(some 12), none, .mx [(.t 9), (.t 11)]⟩,
     ⟨(some 13), none, .build [(.i .i64 0), (.i .i64 0)] [(0, 1, (.t 7)), (1, 1, (.t 12))]⟩,
     ⟨none, none, .st 2 (.t 2) (.t 13)⟩])
   .ret))
def topo_undirected.r : List Rr := [.cell 2 (some 2)]
abbrev topo_undirected.n : Nat := 14
def topo_Shells.c (mesh_Check topo_edges topo_undirected slices_Sort_int_int : FuncId) : C :=
 (.seq
  (.reg [
    ⟨(some 1), none, .box (.t 0)⟩,
    ⟨(some 2), none, .mv (.c .nil)⟩])
  (.seq
   (.seq
    (.reg [
      ⟨(some 17), none, .ld (some 2) (.t 1)⟩,
      ⟨(some 18), none, .call mesh_Check [(.t 17)]⟩,
      ⟨(some 19), none, .bin .neq (.t 18) (.c (.i .i64 0))⟩])
    (.ite (.t 19)
     (.seq
      (.reg [
        ⟨(some 2), none, .mv (.c .nil)⟩])
      .ret)
     .skip))
   (.seq
    (.reg [
      ⟨(some 20), none, .mkm none⟩,
      ⟨(some 3), none, .mv (.t 20)⟩])
    (.seq
     (.seq
      (.reg [
        ⟨(some 21), none, .fa 1 (.t 1)⟩,
        ⟨(some 22), none, .ld none (.t 21)⟩,
        ⟨(some 23), none, .len 0 (.t 22)⟩,
        ⟨(some 24), none, .mv (.c (.i .i64 0))⟩])
      (.blk 0
       (.loop
        (.seq
         (.reg [
           ⟨(some 25), none, .bin .lss (.t 24) (.t 23)⟩])
         (.seq
          (.ite (.t 25)
           .skip
           (.exit 0))
          (.seq
           (.blk 1
            (.seq
             (.reg [
               ⟨(some 26), none, .mv (.t 24)⟩,
               ⟨(some 27), none, .ia 3 (.t 22) (.t 24)⟩,
               ⟨(some 28), none, .ld (some 3) (.t 27)⟩,
               ⟨(some 5), none, .alloc [(.i .i64 0), (.i .i64 0), (.i .i64 0)]⟩,
               ⟨(some 4), none, .mv (.t 26)⟩,
               ⟨none, none, .st 3 (.t 5) (.t 28)⟩])
             (.seq
              (.reg [
                ⟨(some 29), none, .ld (some 3) (.t 5)⟩,
                ⟨(some 30), none, .call topo_edges [(.t 29)]⟩,
                ⟨(some 31), none, .len 0 (.t 30)⟩,
                ⟨(some 32), none, .mv (.c (.i .i64 0))⟩])
              (.blk 2
               (.loop
                (.seq
                 (.reg [
                   ⟨(some 33), none, .bin .lss (.t 32) (.t 31)⟩])
                 (.seq
                  (.ite (.t 33)
                   .skip
                   (.exit 2))
                  (.seq
                   (.blk 3
                    (.seq
                     (.reg [
                       ⟨(some 34), none, .ia 2 (.t 30) (.t 32)⟩,
                       ⟨(some 35), none, .ld (some 2) (.t 34)⟩,
                       ⟨(some 7), none, .alloc [(.i .i64 0), (.i .i64 0)]⟩,
                       ⟨none, none, .st 2 (.t 7) (.t 35)⟩])
                     (.drw [
                       ⟨(some 36), none, .mv (.t 3)⟩,
                       ⟨(some 37), none, .ld (some 2) (.t 7)⟩,
                       ⟨(some 38), none, .call topo_undirected [(.t 37)]⟩,
                       ⟨(some 39), none, .mv (.t 3)⟩,
                       ⟨(some 40), none, .ld (some 2) (.t 7)⟩,
                       ⟨(some 41), none, .call topo_undirected [(.t 40)]⟩,
                       ⟨(some 42), none, .lk [1, 1] .nil false (.t 39) (.t 41)⟩,
                       ⟨(some 43), none, .mv (.t 4)⟩,
                       ⟨(some 44), none, .bsi 1 1 [(.i .i64 0)] [(0, (.t 43))]⟩,
                       ⟨(some 45), none, .app 1 8 (.t 42) (.t 44)⟩,
                       ⟨none, none, .mup [1, 1] (.t 36) (.t 38) (.t 45)⟩] [[], [], [], [], [2], [], [], [], [], [], []])))
                   (.reg [
                     ⟨(some 46), none, .bin .add (.t 32) (.c (.i .i64 1))⟩,
                     ⟨(some 32), none, .mv (.t 46)⟩])))))))))
           (.reg [
             ⟨(some 47), none, .bin .add (.t 24) (.c (.i .i64 1))⟩,
             ⟨(some 24), none, .mv (.t 47)⟩])))))))
     (.seq
      (.reg [
        ⟨(some 8), none, .mv (.c .nil)⟩])
      (.seq
       (.reg [
         ⟨(some 48), none, .fa 1 (.t 1)⟩,
         ⟨(some 49), none, .ld none (.t 48)⟩,
         ⟨(some 50), none, .len 0 (.t 49)⟩,
         ⟨(some 51), none, .mks 1 1 [(.b false)] (.t 50)⟩,
         ⟨(some 9), none, .mv (.t 51)⟩])
       (.seq
        (.seq
         (.reg [
           ⟨(some 52), none, .fa 1 (.t 1)⟩,
           ⟨(some 53), none, .ld none (.t 52)⟩,
           ⟨(some 54), none, .len 0 (.t 53)⟩,
           ⟨(some 55), none, .mv (.c (.i .i64 0))⟩])
         (.blk 4
          (.loop
           (.seq
            (.reg [
              ⟨(some 56), none, .bin .lss (.t 55) (.t 54)⟩])
            (.seq
             (.ite (.t 56)
              .skip
              (.exit 4))
             (.seq
              (.blk 5
               (.seq
                (.reg [
                  ⟨(some 57), none, .mv (.t 55)⟩,
                  ⟨(some 10), none, .mv (.t 57)⟩])
                (.seq
                 (.seq
                  (.reg [
                    ⟨(some 58), none, .mv (.t 9)⟩,
                    ⟨(some 59), none, .mv (.t 10)⟩,
                    ⟨(some 60), none, .ia 1 (.t 58) (.t 59)⟩,
                    ⟨(some 61), none, .ld none (.t 60)⟩])
                  (.ite (.t 61)
                   (.exit 5)
                   .skip))
                 (.seq
                  (.reg [
                    ⟨(some 62), none, .mv (.t 9)⟩,
                    ⟨(some 63), none, .mv (.t 10)⟩,
                    ⟨(some 64), none, .ia 1 (.t 62) (.t 63)⟩,
                    ⟨none, none, .st 1 (.t 64) (.c (.b true))⟩])
                  (.seq
                   (.reg [
                     ⟨(some 65), none, .mv (.t 10)⟩,
                     ⟨(some 66), none, .bso 1 1 [(.i .i64 0)] [(0, (.t 65))]⟩,
                     ⟨(some 11), none, .mv (.t 66)⟩])
                   (.seq
                    (.seq
                     (.reg [
                       ⟨(some 12), none, .mv (.c (.i .i64 0))⟩])
                     (.blk 6
                      (.loop
                       (.seq
                        (.seq
                         (.reg [
                           ⟨(some 67), none, .mv (.t 12)⟩,
                           ⟨(some 68), none, .mv (.t 11)⟩,
                           ⟨(some 69), none, .len 0 (.t 68)⟩,
                           ⟨(some 70), none, .bin .lss (.t 67) (.t 69)⟩])
                         (.ite (.t 70)
                          .skip
                          (.exit 6)))
                        (.seq
                         (.blk 7
                          (.seq
                           (.drw [
                             ⟨(some 73), none, .fa 1 (.t 1)⟩,
                             ⟨(some 74), none, .ld none (.t 73)⟩,
                             ⟨(some 75), none, .mv (.t 11)⟩,
                             ⟨(some 76), none, .mv (.t 12)⟩,
                             ⟨(some 77), none, .ia 1 (.t 75) (.t 76)⟩,
                             ⟨(some 78), none, .ld none (.t 77)⟩,
                             ⟨(some 79), none, .ia 3 (.t 74) (.t 78)⟩,
                             ⟨(some 80), none, .ld (some 3) (.t 79)⟩,
                             ⟨(some 81), none, .call topo_edges [(.t 80)]⟩,
                             ⟨(some 82), none, .len 0 (.t 81)⟩,
                             ⟨(some 83), none, .mv (.c (.i .i64 0))⟩] [])
                           (.blk 8
                            (.loop
                             (.seq
                              (.reg [
                                ⟨(some 84), none, .bin .lss (.t 83) (.t 82)⟩])
                              (.seq
                               (.ite (.t 84)
                                .skip
                                (.exit 8))
                               (.seq
                                (.blk 9
                                 (.seq
                                  (.reg [
                                    ⟨(some 85), none, .ia 2 (.t 81) (.t 83)⟩,
                                    ⟨(some 86), none, .ld (some 2) (.t 85)⟩,
                                    ⟨(some 14), none, .alloc [(.i .i64 0), (.i .i64 0)]⟩,
                                    ⟨none, none, .st 2 (.t 14) (.t 86)⟩])
                                  (.seq
                                   (.reg [
                                     ⟨(some 87), none, .mv (.t 3)⟩,
                                     ⟨(some 88), none, .ld (some 2) (.t 14)⟩,
                                     ⟨(some 89), none, .call topo_undirected [(.t 88)]⟩,
                                     ⟨(some 90), none, .lk [1, 1] .nil false (.t 87) (.t 89)⟩,
                                     ⟨(some 91), none, .len 0 (.t 90)⟩,
                                     ⟨(some 92), none, .mv (.c (.i .i64 0))⟩])
                                   (.blk 10
                                    (.loop
                                     (.seq
                                      (.reg [
                                        ⟨(some 93), none, .bin .lss (.t 92) (.t 91)⟩])
                                      (.seq
                                       (.ite (.t 93)
                                        .skip
                                        (.exit 10))
                                       (.seq
                                        (.blk 11
                                         (.seq
                                          (.reg [
                                            ⟨(some 94), none, .ia 1 (.t 90) (.t 92)⟩,
                                            ⟨(some 95), none, .ld none (.t 94)⟩,
                                            ⟨(some 16), none, .mv (.t 95)⟩])
                                          (.seq
                                           (.reg [
                                             ⟨(some 96), none, .mv (.t 9)⟩,
                                             ⟨(some 97), none, .mv (.t 16)⟩,
                                             ⟨(some 98), none, .ia 1 (.t 96) (.t 97)⟩,
                                             ⟨(some 99), none, .ld none (.t 98)⟩,
                                             ⟨(some 100), none, .un .not (.t 99)⟩])
                                           (.ite (.t 100)
                                            (.seq
                                             (.reg [
                                               ⟨(some 101), none, .mv (.t 9)⟩,
                                               ⟨(some 102), none, .mv (.t 16)⟩,
                                               ⟨(some 103), none, .ia 1 (.t 101) (.t 102)⟩,
                                               ⟨none, none, .st 1 (.t 103) (.c (.b true))⟩])
                                             (.reg [
                                               ⟨(some 104), none, .mv (.t 11)⟩,
                                               ⟨(some 105), none, .mv (.t 16)⟩,
                                               ⟨(some 106), none, .bsi 1 1 [(.i .i64 0)] [(0, (.t 105))]⟩,
                                               ⟨(some 107), none, .app 1 8 (.t 104) (.t 106)⟩,
                                               ⟨(some 11), none, .mv (.t 107)⟩]))
                                            .skip))))
                                        (.reg [
                                          ⟨(some 108), none, .bin .add (.t 92) (.c (.i .i64 1))⟩,
                                          ⟨(some 92), none, .mv (.t 108)⟩])))))))))
                                (.reg [
                                  ⟨(some 109), none, .bin .add (.t 83) (.c (.i .i64 1))⟩,
                                  ⟨(some 83), none, .mv (.t 109)⟩]))))))))
                         (.reg [
                           ⟨(some 71), none, .mv (.t 12)⟩,
                           ⟨(some 72), none, .bin .add (.t 71) (.c (.i .i64 1))⟩,
                           ⟨(some 12), none, .mv (.t 72)⟩]))))))
                    (.seq
                     (.reg [
                       ⟨(some 110), none, .mv (.t 11)⟩,
                       ⟨(some 111), none, .call slices_Sort_int_int [(.t 110)]⟩])
                     (.reg [
                       ⟨(some 112), none, .mv (.t 8)⟩,
                       ⟨(some 113), none, .mv (.t 11)⟩,
                       ⟨(some 114), none, .bso 1 1 [.nil] [(0, (.t 113))]⟩,
                       ⟨(some 115), none, .app 1 24 (.t 112) (.t 114)⟩,
                       ⟨(some 8), none, .mv (.t 115)⟩]))))))))
              (.reg [
                ⟨(some 116), none, .bin .add (.t 55) (.c (.i .i64 1))⟩,
                ⟨(some 55), none, .mv (.t 116)⟩])))))))
        (.seq
         (.reg [
           ⟨(some 117), none, .mv (.t 8)⟩,
           ⟨(some 2), none, .mv (.t 117)⟩])
         .ret))))))))
def topo_Shells.r : List Rr := [.tmp 2]
abbrev topo_Shells.n : Nat := 118

end Go.Abs
set_option linter.unusedVariables false
set_option linter.unusedSimpArgs false
namespace Go.Abs

theorem rev_ind {α : Type} {p : List α → Prop} (h0 : p []) (h1 : ∀ E x, p E → p (E ++ [x])) (E : List α) : p E := by
  rw [← E.reverse_reverse]
  induction E.reverse with
  | nil => exact h0
  | cons x l ih => rw [List.reverse_cons]; exact h1 _ _ ih

def val (e : P2) (L : List (P2 × Int)) : Int := match fnd e L with | some (_, n) => n | none => 0

/-- The next of the entries not yet seen: how many are left. -/
def left (n : Nat) (seen : List Nat) : Nat := ((List.range n).filter fun i => !seen.contains i).length
/-- The order of edges. -/
def P2.lt (a b : P2) : Prop := a.x < b.x ∨ (a.x = b.x ∧ a.y < b.y)
instance (a b : P2) : Decidable (P2.lt a b) := by unfold P2.lt; infer_instance
theorem P2.lt_irrefl (a : P2) : ¬ P2.lt a a := by unfold P2.lt; omega
theorem P2.lt_trans {a b c : P2} (h1 : P2.lt a b) (h2 : P2.lt b c) : P2.lt a c := by unfold P2.lt at *; omega
end Go.Abs
set_option linter.unusedVariables false
set_option linter.unusedSimpArgs false
namespace Go.Abs

theorem app_get_r (h l : List O) (k : Nat) : (h ++ l)[h.length + k]? = l[k]? := by
  rw [List.getElem?_append_right (by omega)]; congr 1; omega
theorem app_get_0 (h l : List O) : (h ++ l)[h.length]? = l[0]? := app_get_r h l 0
theorem app_set_r (h l : List O) (k : Nat) (o : O) : (h ++ l).set (h.length + k) o = h ++ l.set k o := by
  rw [List.set_append_right _ _ (by omega)]; congr 2; omega
theorem app_set_0 (h l : List O) (o : O) : (h ++ l).set h.length o = h ++ l.set 0 o := app_set_r h l 0 o
theorem WeakH_app {n : Nat} {a b : List O} : ∀ {h : List O}, (∀ o ∈ h, o.cl n) → WeakH n a b → WeakH n (h ++ a) (h ++ b)
  | [], _, hw => hw
  | o :: h, hc, hw => ⟨.inr ⟨rfl, hc o (by simp)⟩, WeakH_app (fun o' ho => hc o' (by simp [ho])) hw⟩

section
variable {P : Program} {h : List O} {n0 : Nat} {js : List Nat} {lg : List (List Nat × List Nat)} {al : List Nat} {K : List Nat × List Nat → V → List O → Prop}

end

section
variable {J : Nat → Prop} {m : List Ent} {w : World}

end

theorem ACall_to {P : Program} {f : FuncId} {vs : List V} {h h0 : List O} {r0 : V} {k : V → List O → Prop} (hc : ACall P f vs h (fun r h' => r = r0 ∧ h' = h0)) (hk : k r0 h0) : ACall P f vs h k :=
  hc.mono fun r h' hh => by rw [hh.1, hh.2]; exact hk
end Go.Abs
set_option linter.unusedVariables false
set_option linter.unusedSimpArgs false
namespace Go.Abs
open Go.Sort

instance : Inhabited P2 := ⟨⟨0, 0⟩⟩
def P2.rev (e : P2) : P2 := ⟨e.y, e.x⟩
def P2.und (e : P2) : P2 := ⟨min e.x e.y, max e.x e.y⟩
def UndC (P : Program) (f : FuncId) : Prop := ∀ e : P2, CallIs P f [e.enc] e.und.enc
section
variable {P : Program} (hm : P.follows .mixedOrders = true)
include hm

theorem topo_edges_ok {f : FuncId} (hf : FnOk P f topo_edges.c topo_edges.r topo_edges.n) : EdgesC P f := orient_edges_ok hm hf
theorem topo_undirected_ok {f : FuncId} (hf : FnOk P f topo_undirected.c topo_undirected.r topo_undirected.n) : UndC P f := by
  intro e
  refine PureC.is (pure_of hm hf (Nat.le_of_ble_eq_true rfl) ?_) rfl
  unfold topo_undirected.c
  simp [go_sem, P2.enc, P2.cs, topo_undirected.r, P2.und, min_if, max_if]
end
end Go.Abs
set_option linter.unusedVariables false
set_option linter.unusedSimpArgs false
namespace Go.Abs

abbrev Use := P2 × Int
def ascU (l : List Use) : Prop := l.Pairwise fun a b => P2.lt a.1 b.1
/-- The place of an edge: how many come before it. -/
def pl (l : List Use) (e : P2) : Nat := l.countP fun u => decide (P2.lt u.1 e)
theorem pl_spec {e : P2} : ∀ {l : List Use}, ascU l → ∀ {j : Nat} {u : Use}, l[j]? = some u → (P2.lt u.1 e ↔ j < pl l e)
  | [], _, j, u, h => by simp at h
  | x :: r, ha, j, u, h => by
    have hc := List.pairwise_cons.1 ha
    by_cases hx : P2.lt x.1 e
    · have hp : pl (x :: r) e = pl r e + 1 := by simp [pl, List.countP_cons, hx]
      cases j with
      | zero => simp at h; subst h; simp [hp, hx]
      | succ j => simp at h; rw [pl_spec hc.2 h, hp]; omega
    · have h0 : pl r e = 0 := by
        unfold pl
        rw [List.countP_eq_zero]
        intro v hv
        simp only [decide_eq_true_eq]
        exact fun h1 => hx (P2.lt_trans (hc.1 v hv) h1)
      have hp : pl (x :: r) e = 0 := by unfold pl at h0 ⊢; simp [List.countP_cons, hx, h0]
      rw [hp]
      simp only [Nat.not_lt_zero, iff_false]
      cases j with
      | zero => simp at h; subst h; exact hx
      | succ j =>
        simp at h
        rw [pl_spec hc.2 h, h0]; omega
theorem pl_found {l : List Use} (h : ascU l) {j : Nat} {e : P2} {n : Int} (hj : l[j]? = some (e, n)) : pl l e = j := by
  have h1 : ¬ j < pl l e := fun hh => P2.lt_irrefl e ((pl_spec h hj).2 hh)
  have hjl := (List.getElem?_eq_some_iff.1 hj).1
  refine Decidable.byContradiction fun hne => ?_
  have hlt : pl l e < j := by omega
  have h2 : l[pl l e]? = some l[pl l e] := List.getElem?_eq_getElem (by omega)
  have h3 := List.pairwise_iff_getElem.1 h (pl l e) j (by omega) hjl hlt
  obtain ⟨_, hj2⟩ := List.getElem?_eq_some_iff.1 hj
  rw [hj2] at h3
  have : pl l e < pl l e := (pl_spec h h2).1 h3
  omega
/-- The number of an edge, or 0. -/
def numU (l : List Use) (e : P2) : Int := match l[pl l e]? with | some u => if u.1 = e then u.2 else 0 | none => 0
def hasU (l : List Use) (e : P2) : Bool := match l[pl l e]? with | some u => decide (u.1 = e) | none => false
theorem hasU_iff {l : List Use} (h : ascU l) {e : P2} : hasU l e = true ↔ ∃ n, (e, n) ∈ l := by
  unfold hasU
  constructor
  · intro h1
    split at h1
    · rename_i u hu
      simp only [decide_eq_true_eq] at h1
      subst h1
      exact ⟨u.2, List.mem_of_getElem? hu⟩
    · simp at h1
  · rintro ⟨n, hn⟩
    obtain ⟨j, hj⟩ := List.getElem?_of_mem hn
    rw [pl_found h hj, hj]; simp
theorem numU_of {l : List Use} (h : ascU l) {e : P2} {n : Int} (hn : (e, n) ∈ l) : numU l e = n := by
  obtain ⟨j, hj⟩ := List.getElem?_of_mem hn
  unfold numU
  rw [pl_found h hj, hj]; simp
theorem numU_none {l : List Use} {e : P2} (hn : ∀ n, (e, n) ∉ l) : numU l e = 0 := by
  unfold numU
  split
  · rename_i u hu
    split
    · rename_i h1
      subst h1
      exact absurd (List.mem_of_getElem? hu) (hn u.2)
    · rfl
  · rfl
/-- The list counts these edges. -/
def Cnt (L : List Use) (E : List P2) : Prop := ascU L ∧ ∀ e n, (e, n) ∈ L ↔ e ∈ E ∧ n = E.count e
theorem Cnt.nil : Cnt [] [] := ⟨by simp [ascU], by simp⟩
theorem Cnt.has {L : List Use} {E : List P2} (h : Cnt L E) (e : P2) : hasU L e = true ↔ e ∈ E := by
  rw [hasU_iff h.1]
  constructor
  · rintro ⟨n, hn⟩; exact ((h.2 e n).1 hn).1
  · intro he; exact ⟨_, (h.2 e _).2 ⟨he, rfl⟩⟩
theorem Cnt.num {L : List Use} {E : List P2} (h : Cnt L E) (e : P2) : numU L e = E.count e := by
  by_cases he : e ∈ E
  · exact numU_of h.1 ((h.2 e _).2 ⟨he, rfl⟩)
  · rw [numU_none fun n hn => he ((h.2 e n).1 hn).1, List.count_eq_zero.2 he]; rfl
theorem nodupP_len : ∀ {l k : List P2}, l.Nodup → (∀ a ∈ l, a ∈ k) → l.length ≤ k.length
  | [], k, _, _ => by simp
  | x :: l, k, hn, hs => by
    have hc := List.nodup_cons.1 hn
    have hx := hs x (by simp)
    have := nodupP_len (l := l) (k := k.erase x) hc.2 (fun a ha => by
      have hne : a ≠ x := by rintro rfl; exact hc.1 ha
      exact (List.mem_erase_of_ne hne).2 (hs a (by simp [ha])))
    rw [List.length_erase_of_mem hx] at this
    have := List.length_pos_of_mem hx
    simp only [List.length_cons]; omega
theorem Cnt.nodup {L : List Use} {E : List P2} (h : Cnt L E) : (L.map Prod.fst).Nodup := by
  show List.Pairwise _ _
  rw [List.pairwise_map]
  exact h.1.imp fun h1 h2 => by rw [h2] at h1; exact P2.lt_irrefl _ h1
theorem Cnt.len {L : List Use} {E : List P2} (h : Cnt L E) : L.length ≤ E.length := by
  have := nodupP_len h.nodup (k := E) fun e he => by
    obtain ⟨u, hu, rfl⟩ := List.mem_map.1 he
    exact ((h.2 u.1 u.2).1 hu).1
  simpa using this
end Go.Abs
set_option linter.unusedVariables false
set_option linter.unusedSimpArgs false
namespace Go.Abs

theorem WeakH_self {n : Nat} {h l : List O} (hc : ∀ o ∈ h, o.cl n) : WeakH n (h ++ l) h := by
  have := WeakH_app (n := n) (a := l) (b := []) hc (by cases l <;> trivial)
  rwa [List.append_nil] at this
theorem app_get_l {h l : List O} {id : Nat} {o : O} (ho : h[id]? = some o) : (h ++ l)[id]? = some o := by
  rw [List.getElem?_append_left (List.getElem?_eq_some_iff.1 ho).1, ho]
theorem app_set_l {h : List O} (l : List O) {id : Nat} (hid : id < h.length) (o : O) : (h ++ l).set id o = h.set id o ++ l := List.set_append_left _ _ hid

theorem frzAll_own {h : List O} {id g sz n : Nat} {els : List (List V)} (ho : h[id]? = some (.arr g sz els)) (hn : els.length = n) (hd : ∀ el ∈ els, ∀ x ∈ el, x.isD = true) {vs us : List V} (hr : frzAll h vs = some us) :
    frzAll h (.own id g 0 n :: vs) = some (.l sz els :: us) := by
  subst hn
  have ha : (els.all fun x => x.all V.isD) = true := by rw [List.all_eq_true]; exact fun el hel => List.all_eq_true.2 (hd el hel)
  have h1 : frz h (.own id g 0 els.length) = some (.l sz els) := by simp [frz, frz0, ho, ha]
  unfold frzAll at hr ⊢
  simp [h1, hr]

section
variable {P : Program} (hm : P.follows .mixedOrders = true)
include hm

end
end Go.Abs
set_option linter.unusedVariables false
set_option linter.unusedSimpArgs false
namespace Go.Abs

theorem take_succ_get {α : Type} {l : List α} {k : Nat} {x : α} (h : l[k]? = some x) : l.take (k + 1) = l.take k ++ [x] := by rw [List.take_add_one, h]; rfl
section
variable {P : Program} (hm : P.follows .mixedOrders = true)
include hm

end
end Go.Abs
set_option linter.unusedVariables false
set_option linter.unusedSimpArgs false
namespace Go.Abs
open Go.Sort

theorem edgesOf_ne {t : T3} {e : P2} (h : e ∈ edgesOf t) : e.x ≠ e.y := by
  unfold edgesOf edgesK at h
  have := (List.mem_filter.1 h).2
  simpa using this
section
variable {P : Program} (hm : P.follows .mixedOrders = true)
include hm

end
end Go.Abs
set_option linter.unusedVariables false
set_option linter.unusedSimpArgs false
namespace Go.Abs

def isV (l : List Int) : V := .l 1 (l.map fun x => [.i .i64 x])
section
variable {P : Program} (hm : P.follows .mixedOrders = true)
include hm

end
end Go.Abs
set_option linter.unusedVariables false
set_option linter.unusedSimpArgs false
namespace Go.Abs

def bl (n : Nat) (g : Nat → Bool) : List (List V) := (List.range n).map fun j => [.b (g j)]
theorem bl_len (n : Nat) (g : Nat → Bool) : (bl n g).length = n := by simp [bl]
theorem bl_get {n : Nat} {g : Nat → Bool} {i : Nat} (h : i < n) : (bl n g)[i]? = some [.b (g i)] := by simp [bl, h]
theorem bl_rep (n : Nat) : List.replicate n [V.b false] = bl n (fun _ => false) := by
  apply List.ext_getElem?
  intro i
  by_cases h : i < n
  · rw [bl_get h]; simp [h]
  · rw [List.getElem?_eq_none (by simp; omega), List.getElem?_eq_none (by rw [bl_len]; omega)]
theorem bl_set (n : Nat) (g : Nat → Bool) (i : Nat) (b : Bool) : (bl n g).set i [.b b] = bl n (fun j => if j = i then b else g j) := by
  apply List.ext_getElem?
  intro j
  by_cases h : j < n
  · rw [bl_get h]
    by_cases hj : i = j
    · subst hj
      rw [List.getElem?_set_self (by rw [bl_len]; exact h), if_pos rfl]
    · rw [List.getElem?_set_ne hj, bl_get h, if_neg (fun hh => hj hh.symm)]
  · rw [List.getElem?_eq_none (by simp [bl_len]; omega), List.getElem?_eq_none (by rw [bl_len]; omega)]
theorem bl_cl (n : Nat) (g : Nat → Bool) (k : Nat) : ∀ el ∈ bl n g, ∀ x ∈ el, x.cl k = true := by
  intro el hel x hx
  obtain ⟨j, _, rfl⟩ := List.mem_map.1 hel
  simp at hx; subst hx; rfl
end Go.Abs
set_option linter.unusedVariables false
set_option linter.unusedSimpArgs false
namespace Go.Abs

def ics (l : List Int) : List (List V) := l.map fun x => [.i .i64 x]
def lsV (ls : List (List Int)) : V := .l 1 (ls.map fun l => [isV l])
/-- Lists that stand in arrays of their own. -/
def Held (b : Nat) (hx : List O) (ls : List (List Int)) (cells : List (List V)) : Prop :=
  cells.length = ls.length ∧ ∀ (i : Nat) (c : List V) (l : List Int), cells[i]? = some c → ls[i]? = some l → ∃ j g, c = [.own (b + j) g 0 l.length] ∧ hx[j]? = some (.arr g 1 (ics l))
def Flt (hx : List O) : Prop := ∀ o ∈ hx, ∀ n, o.cl n
theorem Held.nil (b : Nat) : Held b [] [] [] := ⟨rfl, by simp⟩
theorem Held.app {b : Nat} {hx : List O} {ls : List (List Int)} {cells : List (List V)} (h : Held b hx ls cells) (l : List O) : Held b (hx ++ l) ls cells :=
  ⟨h.1, fun i c x h1 h2 => by obtain ⟨j, g, h3, h4⟩ := h.2 i c x h1 h2; exact ⟨j, g, h3, by rw [List.getElem?_append_left (List.getElem?_eq_some_iff.1 h4).1]; exact h4⟩⟩
theorem Held.snoc {b : Nat} {hx : List O} {ls : List (List Int)} {cells : List (List V)} (h : Held b hx ls cells) {j g : Nat} {l : List Int} (hj : hx[j]? = some (.arr g 1 (ics l))) : Held b hx (ls ++ [l]) (cells ++ [[.own (b + j) g 0 l.length]]) := by
  refine ⟨by simp [h.1], fun i c x h1 h2 => ?_⟩
  by_cases hi : i < ls.length
  · rw [List.getElem?_append_left (by rw [h.1]; exact hi)] at h1
    rw [List.getElem?_append_left hi] at h2
    exact h.2 i c x h1 h2
  · rw [List.getElem?_append_right (by rw [h.1]; omega)] at h1
    rw [List.getElem?_append_right (by omega)] at h2
    have hi0 : i - ls.length = 0 := by
      have := (List.getElem?_eq_some_iff.1 h2).1
      simp at this; omega
    rw [h.1, hi0] at h1
    rw [hi0] at h2
    simp at h1 h2
    subst h1; subst h2
    exact ⟨j, g, rfl, hj⟩
theorem Held.cl {b : Nat} {hx : List O} {ls : List (List Int)} {cells : List (List V)} (h : Held b hx ls cells) {n : Nat} (hn : b + hx.length ≤ n) : ∀ el ∈ cells, ∀ x ∈ el, x.cl n = true := by
  intro el hel x hx'
  obtain ⟨i, hi⟩ := List.getElem?_of_mem hel
  have hlt := (List.getElem?_eq_some_iff.1 hi).1
  obtain ⟨j, g, rfl, h4⟩ := h.2 i el _ hi (List.getElem?_eq_getElem (by rw [← h.1]; exact hlt))
  have := (List.getElem?_eq_some_iff.1 h4).1
  simp at hx'; subst hx'
  simp [V.cl, V.cl1, V.cl0]; omega
theorem ics_isD (l : List Int) : ∀ el ∈ ics l, ∀ x ∈ el, x.isD = true := by
  intro el hel x hx
  obtain ⟨a, _, rfl⟩ := List.mem_map.1 hel
  simp at hx; subst hx; rfl
theorem ics_cl (l : List Int) (n : Nat) : ∀ el ∈ ics l, ∀ x ∈ el, x.cl n = true := fun el hel x hx => isD_cl n (ics_isD l el hel x hx)
theorem Held.frz {b : Nat} {base hx : List O} {ls : List (List Int)} {cells : List (List V)} (h : Held b hx ls cells) (hb : base.length = b) : cells.mapM (fun el => el.mapM (frzD (base ++ hx))) = some (ls.map fun l => [isV l]) := by
  induction cells generalizing ls with
  | nil =>
    have := h.1
    simp at this
    obtain rfl := List.length_eq_zero_iff.1 this.symm
    rfl
  | cons c cells ih =>
    have hl := h.1
    cases ls with
    | nil => simp at hl
    | cons l ls =>
      have h0 := h.2 0 c l rfl rfl
      obtain ⟨j, g, rfl, hj⟩ := h0
      have ht : Held b hx ls cells := ⟨by simpa using hl, fun i c x h1 h2 => h.2 (i + 1) c x (by simpa using h1) (by simpa using h2)⟩
      have hg : (base ++ hx)[b + j]? = some (.arr g 1 (ics l)) := by rw [← hb, app_get_r]; exact hj
      have ha : (ics l).all (fun x => x.all V.isD) = true := by
        rw [List.all_eq_true]
        exact fun el hel => List.all_eq_true.2 (ics_isD l el hel)
      have hlen : (ics l).length = l.length := by simp [ics]
      have hfr : frzD (base ++ hx) (.own (b + j) g 0 l.length) = some (isV l) := by
        have ht2 : List.take l.length (ics l) = ics l := List.take_of_length_le (by omega)
        show _ = some (V.l 1 (ics l))
        simp only [frzD, frz0, hg]
        rw [List.drop_zero, ht2, if_pos ⟨trivial, by omega, ha⟩]
      simp [List.mapM_cons, hfr, ih ht]
theorem held_if {b : Nat} {base hx : List O} {ls : List (List Int)} {cells : List (List V)} (h : Held b hx ls cells) (hb : base.length = b) :
    (if ls.length ≤ cells.length then Option.map (V.l 1) (List.mapM (fun el => List.mapM (frzD (base ++ hx)) el) (List.take ls.length cells)) else none) = some (lsV ls) := by
  have h1 := h.frz hb
  have ht : List.take ls.length cells = cells := List.take_of_length_le (by rw [h.1]; exact Nat.le_refl _)
  simp only [ht, h1, h.1, Nat.le_refl, if_true, Option.map_some, lsV]

section
variable {P : Program} (hm : P.follows .mixedOrders = true)
include hm

end
end Go.Abs
set_option linter.unusedVariables false
set_option linter.unusedSimpArgs false
namespace Go.Abs

theorem bl_congr {n : Nat} {g g' : Nat → Bool} (h : ∀ j, j < n → g j = g' j) : bl n g = bl n g' := by
  unfold bl
  exact List.map_congr_left fun j hj => by rw [h j (List.mem_range.1 hj)]
/-- The marks of these vertices. -/
def mk (n : Nat) (done : List Int) : List (List V) := bl n fun j => decide ((j : Int) ∈ done)
theorem mk_nil (n : Nat) : List.replicate n [V.b false] = mk n [] := by rw [bl_rep]; exact bl_congr fun j _ => by simp
theorem mk_len (n : Nat) (d : List Int) : (mk n d).length = n := bl_len _ _
theorem mk_set {n : Nat} {d : List Int} {v : Int} (h0 : 0 ≤ v) : (mk n d).set v.toNat [.b true] = mk n (d ++ [v]) := by
  unfold mk
  rw [bl_set]
  refine bl_congr fun j _ => ?_
  by_cases hj : j = v.toNat
  · have : (j : Int) = v := by omega
    simp [hj, show ((v.toNat : Nat) : Int) = v by omega]
  · have : (j : Int) ≠ v := by omega
    simp [hj, this]
theorem mk_get {n : Nat} {d : List Int} {v : Int} (h0 : 0 ≤ v) (h1 : v < n) : (mk n d)[v.toNat]? = some [.b (decide (v ∈ d))] := by
  unfold mk
  rw [bl_get (by omega), show ((v.toNat : Nat) : Int) = v by omega]
theorem mk_cl (n : Nat) (d : List Int) (k : Nat) : ∀ el ∈ mk n d, ∀ x ∈ el, x.cl k = true := bl_cl _ _ _
theorem Flt.app {a b : List O} (h : Flt a) (k : Flt b) : Flt (a ++ b) := fun o ho n => by
  rcases List.mem_append.1 ho with h1 | h1
  · exact h o h1 n
  · exact k o h1 n
theorem Flt.WeakH {hx l : List O} (h : Flt hx) (n : Nat) : WeakH n (hx ++ l) hx := WeakH_self fun o ho => h o ho n
theorem Flt.WeakH' {hx : List O} (h : Flt hx) (n : Nat) : Go.Abs.WeakH n hx hx := by
  have := h.WeakH (l := []) n
  rwa [List.append_nil] at this

section
variable {P : Program} (hm : P.follows .mixedOrders = true)
include hm

end
end Go.Abs
