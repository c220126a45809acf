/- What Coherent and the statement OrientChecks do to values. -/
import Derived.Test.YtmgfinibgfjmpaaGoOriC
import Derived.Test.YtmgfinibgfjmpaaGoHeap
set_option linter.unusedVariables false
set_option linter.unusedSimpArgs false
namespace Go.Abs

def Mesh.coh (m : Mesh) : Bool := decide (m.check = 0) && cohB m.tris
def CoherentC (P : Program) (f : FuncId) : Prop := ∀ m : Mesh, CallIs P f [m.enc] (.b m.coh)
def Mesh.small (m : Mesh) : Bool := decide (m.tris.length ≤ 40) && decide (m.verts.length ≤ 60)
def SmallC (P : Program) (f : FuncId) : Prop := ∀ m : Mesh, CallIs P f [m.enc] (.b m.small)

section
variable {P : Program} (hm : P.follows .mixedOrders = true)
include hm

theorem orient_Coherent_ok {f fc fh : FuncId} (hf : FnOk P f (orient_Coherent.c fc fh) orient_Coherent.r orient_Coherent.n) (hc : CheckC P fc) (hh : CohC P fh) : CoherentC P f := by
  intro m
  refine PureC.is (pure_of hm hf (Nat.le_of_ble_eq_true rfl) ?_) rfl
  unfold orient_Coherent.c
  simp [go_sem, Mesh.enc, Mesh.cs]
  refine ACall_is (hc m) ?_
  by_cases h : m.check = 0
  · have hl := (Mesh.check_zero.1 h).2.1
    simp [go_sem, h]
    refine ACall_is (hh m.tris (by omega)) ?_
    simp [go_sem, orient_Coherent.r, Mesh.coh, h]
  · have h' : (m.check == 0) = false := by simpa using h
    simp [go_sem, h, h', orient_Coherent.r, Mesh.coh]

theorem ref11_Coherent_ok {f fc fh : FuncId} (hf : FnOk P f (ref11_Coherent.c fc fh) ref11_Coherent.r ref11_Coherent.n) (hc : CheckC P fc) (hh : CohC P fh) : CoherentC P f := by
  intro m
  refine PureC.is (pure_of hm hf (Nat.le_of_ble_eq_true rfl) ?_) rfl
  unfold ref11_Coherent.c
  simp [go_sem, Mesh.enc, Mesh.cs]
  refine ACall_is (hc m) ?_
  by_cases h : m.check = 0
  · have hl := (Mesh.check_zero.1 h).2.1
    simp [go_sem, h]
    refine ACall_is (hh m.tris (by omega)) ?_
    simp [go_sem, ref11_Coherent.r, Mesh.coh, h]
  · have h' : (m.check == 0) = false := by simpa using h
    simp [go_sem, h, h', ref11_Coherent.r, Mesh.coh]

theorem law11_Small_ok {f : FuncId} (hf : FnOk P f law11_Small.c law11_Small.r law11_Small.n) : SmallC P f := by
  intro m
  refine PureC.is (pure_of hm hf (Nat.le_of_ble_eq_true rfl) ?_) rfl
  unfold law11_Small.c
  simp +contextual -implicitDefEqProofs [go_sem, Mesh.enc, Mesh.cs, vsV, tsV, law11_Small.r, Mesh.small]
  congr 1 <;> rw [decide_eq_decide] <;> omega

theorem OrientChecks_ok {f fs fp fr fa : FuncId} (hf : FnOk P f (law11_OrientChecks.c fs fp fr fa) law11_OrientChecks.r law11_OrientChecks.n) (hs : SmallC P fs) (hp : CoherentC P fp) (hr : CoherentC P fr) (ha : AwakeC P fa) (m : Mesh) :
    PureC P f [m.enc] (· = .b true) := by
  refine pure_of hm hf (Nat.le_of_ble_eq_true rfl) ?_
  unfold law11_OrientChecks.c
  simp [go_sem, Mesh.enc, Mesh.cs]
  refine DCall_is (hs m) ?_
  cases h : m.small
  · simp [go_sem]
    refine DCall_is ha ?_
    simp [go_sem, law11_OrientChecks.r]
  · simp [go_sem]
    refine DCall_is (hp m) ?_
    simp [go_sem]
    refine DCall_is (hr m) ?_
    simp [go_sem]
    refine DCall_is ha ?_
    simp [go_sem, law11_OrientChecks.r]
end
end Go.Abs

