/- The records of a memory, in order: plain laws, and the comparison of records. -/
import Derived.Test.YtedcbjgnidjidaaGoJs
import Derived.Test.YtedcbjgnidjidaaGoJrE
import Derived.Test.YtedcbjgnidjidaaGoCsA
set_option linter.unusedVariables false
set_option linter.unusedSimpArgs false
namespace Go.Abs
open Go.Sort Go.Proofs

instance : Inhabited Rec := ⟨zRec⟩
def Rec.ints (r : Rec) : List Int := [r.kind, r.seq, r.line, r.done, r.fr.a, r.fr.b, r.fr.c, r.fr.d, r.to.a, r.to.b, r.to.c, r.to.d]
theorem Rec.cs_ints (r : Rec) : r.cs = r.ints.map (.i .i64) := rfl

/-- The record of a page that stands where it belongs. -/
def recAt (n i : Nat) (p : List UInt8) : Option Rec := if (decR p).2 = 0 ∧ (decR p).1.seq.tmod n = i then some (decR p).1 else none
def recsK (ps : List (List UInt8)) (k : Nat) : List Rec := (List.range k).filterMap fun i => (ps[i]?).bind (recAt ps.length i)
theorem recsK_succ {ps : List (List UInt8)} {k : Nat} {p : List UInt8} (h : ps[k]? = some p) : recsK ps (k + 1) = recsK ps k ++ (recAt ps.length k p).toList := by
  simp only [recsK, List.range_succ, List.filterMap_append, List.filterMap_cons, List.filterMap_nil, h, Option.bind_some]
  cases recAt ps.length k p <;> rfl
theorem recsK_len (ps : List (List UInt8)) (k : Nat) : (recsK ps k).length ≤ k := by
  have := List.length_filterMap_le (fun i => (ps[i]?).bind (recAt ps.length i)) (List.range k)
  simpa [recsK] using this
theorem recsK_mem {ps : List (List UInt8)} {k : Nat} {r : Rec} (h : r ∈ recsK ps k) : ∃ i p, i < k ∧ ps[i]? = some p ∧ decR p = (r, 0) ∧ r.seq.tmod ps.length = i := by
  simp only [recsK, List.mem_filterMap, List.mem_range] at h
  obtain ⟨i, hi, h⟩ := h
  cases hp : ps[i]? with
  | none => rw [hp] at h; simp at h
  | some p =>
    rw [hp] at h
    simp only [Option.bind_some, recAt] at h
    split at h
    · rename_i hh
      simp only [Option.some.injEq] at h
      subst h
      exact ⟨i, p, hi, hp, Prod.ext rfl hh.1, hh.2⟩
    · simp at h

def seqDis (l : List Rec) : Prop := l.Pairwise fun a b => a.seq ≠ b.seq
theorem recsK_dis (ps : List (List UInt8)) : ∀ k, seqDis (recsK ps k)
  | 0 => by simp [recsK, seqDis]
  | k + 1 => by
    have ih := recsK_dis ps k
    cases hp : ps[k]? with
    | none =>
      have : recsK ps (k + 1) = recsK ps k := by
        simp only [recsK, List.range_succ, List.filterMap_append, List.filterMap_cons, List.filterMap_nil, hp, Option.bind_none, List.append_nil]
      rw [this]; exact ih
    | some p =>
      rw [recsK_succ hp]
      cases hr : recAt ps.length k p with
      | none => simpa using ih
      | some r =>
        simp only [Option.toList]
        unfold seqDis
        rw [List.pairwise_append]
        refine ⟨ih, by simp, fun a ha b hb => ?_⟩
        simp at hb
        subst hb
        obtain ⟨i, q, hi, _, _, h1⟩ := recsK_mem ha
        unfold recAt at hr
        split at hr
        · rename_i hh
          simp only [Option.some.injEq] at hr
          subst hr
          intro he
          rw [he] at h1
          have := hh.2
          omega
        · simp at hr

theorem seqDis_inj : ∀ {l : List Rec}, seqDis l → ∀ {a b : Rec}, a ∈ l → b ∈ l → a.seq = b.seq → a = b
  | [], _, a, b, ha, _, _ => by simp at ha
  | x :: l, h, a, b, ha, hb, hab => by
    have h' := List.pairwise_cons.1 h
    rcases List.mem_cons.1 ha with rfl | ha' <;> rcases List.mem_cons.1 hb with rfl | hb'
    · rfl
    · exact absurd hab (h'.1 b hb')
    · exact absurd hab.symm (h'.1 a ha')
    · exact seqDis_inj (l := l) h'.2 ha' hb' hab

def srt (l : List Rec) : List Rec := l.mergeSort fun a b => decide (a.seq ≤ b.seq)
def seqUp (l : List Rec) : Prop := l.Pairwise fun a b => a.seq ≤ b.seq
theorem srt_perm (l : List Rec) : (srt l).Perm l := List.mergeSort_perm _ _
theorem srt_up (l : List Rec) : seqUp (srt l) := by
  have := List.pairwise_mergeSort (le := fun a b : Rec => decide (a.seq ≤ b.seq)) (fun a b c h1 h2 => by simp at *; omega) (fun a b => by simp; omega) l
  exact this.imp (by simp)
theorem srt_unique {l ys : List Rec} (hd : seqDis l) (hp : ys.Perm l) (hu : seqUp ys) : ys = srt l := by
  refine List.Perm.eq_of_pairwise (le := fun a b : Rec => a.seq ≤ b.seq) ?_ hu (srt_up l) (hp.trans (srt_perm l).symm)
  intro a b ha hb h1 h2
  exact seqDis_inj hd (hp.mem_iff.1 ha) ((srt_perm l).mem_iff.1 hb) (by omega)
theorem srt_len (l : List Rec) : (srt l).length = l.length := (srt_perm l).length_eq

def cmpR (a b : Rec) : Int := cmpI a.seq b.seq
theorem ltR (a b : Rec) : ltOf cmpR a b = decide (a.seq < b.seq) := cmpI_lt _ _
theorem swoR : SWO (ltOf cmpR) where
  irrefl x := by rw [ltR]; simp
  trans x y z h1 h2 := by rw [ltR] at *; simp at *; omega
  ntrans x y z h1 h2 := by rw [ltR] at *; simp at *; omega

section
variable {P : Program} (hm : P.follows .mixedOrders = true)
include hm

theorem All_1_ok {f fc : FuncId} (hf : FnOk P f (journal_All_1.c fc) journal_All_1.r journal_All_1.n) (hc : CmpC P fc) (a b : Rec) : CallIs P f [.a (a.ints.map (.i .i64)), .a (b.ints.map (.i .i64))] (.i .i64 (cmpR a b)) := by
  refine PureC.is (pure_of hm hf (Nat.le_of_ble_eq_true rfl) ?_) rfl
  unfold journal_All_1.c
  simp [go_sem, Rec.ints]
  refine ACall_is (hc a.seq b.seq) ?_
  simp [go_sem, journal_All_1.r, cmpR]
end
end Go.Abs

