/- Part of the library on which the proof stands: an abstract machine, its values and its soundness against the model; or what functions of the program do to such values. -/
import Derived.Test.YtcdjgldeiaiaoaaGreatGoOz
set_option linter.unusedVariables false
set_option linter.unusedSimpArgs false
namespace Go.Abs
def ref04_Det.c (ref04_small ref04_Cross ref04_Dot:FuncId):C :=(.seq (.reg [⟨some 3,none,.box (.t 0)⟩,⟨some 4,none,.box (.t 1)⟩,⟨some 5,none,.box (.t 2)⟩,⟨some 6,none,.mv (.c (.i .i64 0))⟩]) (.seq (.seq (.reg [⟨some 7,none,.ld (some 3) (.t 3)⟩,⟨some 8,none,.call ref04_small [.t 7]⟩,⟨some 9,none,.un .not (.t 8)⟩,⟨some 10,none,.mv (.t 9)⟩,⟨some 11,(some (10,false)),.ld (some 3) (.t 4)⟩,⟨some 12,(some (10,false)),.call ref04_small [.t 11]⟩,⟨some 13,(some (10,false)),.un .not (.t 12)⟩,⟨some 14,none,.pick (.t 10) (.c (.b true)) (.t 13)⟩,⟨some 15,none,.mv (.t 14)⟩,⟨some 16,(some (15,false)),.ld (some 3) (.t 5)⟩,
 ⟨some 17,(some (15,false)),.call ref04_small [.t 16]⟩,⟨some 18,(some (15,false)),.un .not (.t 17)⟩,⟨some 19,none,.pick (.t 15) (.c (.b true)) (.t 18)⟩]) (.ite (.t 19) (.seq (.reg [⟨some 6,none,.mv (.c (.i .i64 0))⟩]) .ret) .skip)) (.seq (.drw [⟨some 20,none,.ld (some 3) (.t 3)⟩,⟨some 21,none,.ld (some 3) (.t 4)⟩,⟨some 22,none,.ld (some 3) (.t 5)⟩,⟨some 23,none,.call ref04_Cross [.t 21,.t 22]⟩,⟨some 24,none,.call ref04_Dot [.t 20,.t 23]⟩,⟨some 6,none,.mv (.t 24)⟩] [[],[],[],[0],[],[]]) .ret)))
def ref04_Det.r:List Rr:=[.tmp 6]
abbrev ref04_Det.n:Nat:=25
def ref04_small.c (ref04_within:FuncId):C :=(.seq (.reg [⟨some 1,none,.box (.t 0)⟩,⟨some 2,none,.mv (.c (.b false))⟩]) (.seq (.reg [⟨some 3,none,.ld (some 3) (.t 1)⟩,⟨some 4,none,.call ref04_within [.t 3,(.c (.i .i64 131072))]⟩,⟨some 2,none,.mv (.t 4)⟩]) .ret))
def ref04_small.r:List Rr:=[.tmp 2]
abbrev ref04_small.n:Nat:=5
def ref04_Dot.c (ref04_small ref04_within:FuncId):C :=(.seq (.reg [⟨some 2,none,.box (.t 0)⟩,⟨some 3,none,.box (.t 1)⟩,⟨some 4,none,.mv (.c (.i .i64 0))⟩]) (.seq (.seq (.reg [⟨some 5,none,.ld (some 3) (.t 2)⟩,⟨some 6,none,.call ref04_small [.t 5]⟩,⟨some 7,none,.un .not (.t 6)⟩,⟨some 8,none,.mv (.t 7)⟩,⟨some 9,(some (8,false)),.ld (some 3) (.t 3)⟩,⟨some 10,(some (8,false)),.call ref04_within [.t 9,(.c (.i .i64 1099511627776))]⟩,⟨some 11,(some (8,false)),.un .not (.t 10)⟩,⟨some 12,none,.pick (.t 8) (.c (.b true)) (.t 11)⟩]) (.ite (.t 12) (.seq (.reg [⟨some 4,none,.mv (.c (.i .i64 0))⟩]) .ret) .skip))
 (.seq (.reg [⟨some 13,none,.fa 0 (.t 2)⟩,⟨some 14,none,.ld none (.t 13)⟩,⟨some 15,none,.fa 0 (.t 3)⟩,⟨some 16,none,.ld none (.t 15)⟩,⟨some 17,none,.bin .mul (.t 14) (.t 16)⟩,⟨some 18,none,.fa 1 (.t 2)⟩,⟨some 19,none,.ld none (.t 18)⟩,⟨some 20,none,.fa 1 (.t 3)⟩,⟨some 21,none,.ld none (.t 20)⟩,⟨some 22,none,.bin .mul (.t 19) (.t 21)⟩,⟨some 23,none,.bin .add (.t 17) (.t 22)⟩,⟨some 24,none,.fa 2 (.t 2)⟩,⟨some 25,none,.ld none (.t 24)⟩,⟨some 26,none,.fa 2 (.t 3)⟩,⟨some 27,none,.ld none (.t 26)⟩,⟨some 28,none,.bin .mul (.t 25) (.t 27)⟩,⟨some 29,none,.bin .add (.t 23) (.t 28)⟩,⟨some 4,none,.mv (.t 29)⟩])
 .ret)))
def ref04_Dot.r:List Rr:=[.tmp 4]
abbrev ref04_Dot.n:Nat:=30
def ref04_Cross.c (ref04_small:FuncId):C :=(.seq (.reg [⟨some 2,none,.box (.t 0)⟩,⟨some 3,none,.box (.t 1)⟩,⟨some 4,none,.alloc [(.i .i64 0),(.i .i64 0),(.i .i64 0)]⟩]) (.seq (.seq (.reg [⟨some 5,none,.ld (some 3) (.t 2)⟩,⟨some 6,none,.call ref04_small [.t 5]⟩,⟨some 7,none,.un .not (.t 6)⟩,⟨some 8,none,.mv (.t 7)⟩,⟨some 9,(some (8,false)),.ld (some 3) (.t 3)⟩,⟨some 10,(some (8,false)),.call ref04_small [.t 9]⟩,⟨some 11,(some (8,false)),.un .not (.t 10)⟩,⟨some 12,none,.pick (.t 8) (.c (.b true)) (.t 11)⟩]) (.ite (.t 12) (.seq (.reg [⟨some 13,none,.build [(.i .i64 0),(.i .i64 0),(.i .i64 0)] []⟩,
 ⟨none,none,.st 3 (.t 4) (.t 13)⟩]) .ret) .skip)) (.seq (.reg [⟨some 14,none,.fa 1 (.t 2)⟩,⟨some 15,none,.ld none (.t 14)⟩,⟨some 16,none,.fa 2 (.t 3)⟩,⟨some 17,none,.ld none (.t 16)⟩,⟨some 18,none,.bin .mul (.t 15) (.t 17)⟩,⟨some 19,none,.fa 2 (.t 2)⟩,⟨some 20,none,.ld none (.t 19)⟩,⟨some 21,none,.fa 1 (.t 3)⟩,⟨some 22,none,.ld none (.t 21)⟩,⟨some 23,none,.bin .mul (.t 20) (.t 22)⟩,⟨some 24,none,.bin .sub (.t 18) (.t 23)⟩,⟨some 25,none,.fa 2 (.t 2)⟩,⟨some 26,none,.ld none (.t 25)⟩,⟨some 27,none,.fa 0 (.t 3)⟩,⟨some 28,none,.ld none (.t 27)⟩,⟨some 29,none,.bin .mul (.t 26) (.t 28)⟩,⟨some 30,none,.fa 0 (.t 2)⟩,
 ⟨some 31,none,.ld none (.t 30)⟩,⟨some 32,none,.fa 2 (.t 3)⟩,⟨some 33,none,.ld none (.t 32)⟩,⟨some 34,none,.bin .mul (.t 31) (.t 33)⟩,⟨some 35,none,.bin .sub (.t 29) (.t 34)⟩,⟨some 36,none,.fa 0 (.t 2)⟩,⟨some 37,none,.ld none (.t 36)⟩,⟨some 38,none,.fa 1 (.t 3)⟩,⟨some 39,none,.ld none (.t 38)⟩,⟨some 40,none,.bin .mul (.t 37) (.t 39)⟩,⟨some 41,none,.fa 1 (.t 2)⟩,⟨some 42,none,.ld none (.t 41)⟩,⟨some 43,none,.fa 0 (.t 3)⟩,⟨some 44,none,.ld none (.t 43)⟩,⟨some 45,none,.bin .mul (.t 42) (.t 44)⟩,⟨some 46,none,.bin .sub (.t 40) (.t 45)⟩,⟨some 47,none,.build [(.i .i64 0),(.i .i64 0),(.i .i64 0)] [(0,1,(.t 24)),(1,1,(.t 35)),(2,1,(.t 46))]⟩,
 ⟨none,none,.st 3 (.t 4) (.t 47)⟩]) .ret)))
def ref04_Cross.r:List Rr:=[.cell 4 (some 3)]
abbrev ref04_Cross.n:Nat:=48
end Go.Abs
set_option linter.unusedVariables false
set_option linter.unusedSimpArgs false
namespace Go.Abs
section
variable {P:Program} (hm:P.follows .mixedOrders = true)
include hm
theorem ref04_small_ok {f fw:FuncId} (hf:FnOk P f (ref04_small.c fw) ref04_small.r ref04_small.n) (hw:WithinC P fw):SmallVC P f:=vec_small_ok hm hf hw
theorem ref04_Cross_ok {f fs:FuncId} (hf:FnOk P f (ref04_Cross.c fs) ref04_Cross.r ref04_Cross.n) (hs:SmallVC P fs):CrossVC P f:=vec_Cross_ok hm hf hs
theorem ref04_Dot_ok {f fs fw:FuncId} (hf:FnOk P f (ref04_Dot.c fs fw) ref04_Dot.r ref04_Dot.n) (hs:SmallVC P fs) (hw:WithinC P fw):DotVC P f:=vec_Dot_ok hm hf hs hw
theorem ref04_Det_ok {f fs fc fd:FuncId} (hf:FnOk P f (ref04_Det.c fs fc fd) ref04_Det.r ref04_Det.n) (hs:SmallVC P fs) (hc:CrossVC P fc) (hd:DotVC P fd):DetC P f:=by
 intro x y z hx hy hz
 refine PureC.is (pure_of hm hf (Nat.le_of_ble_eq_true rfl) ?_) rfl
 unfold ref04_Det.c
 have h0:=hs x
 have h1:=hs y
 have h2:=hs z
 rw [valid_small hx] at h0
 rw [valid_small hy] at h1
 rw [valid_small hz] at h2
 simp [go_sem,V3.enc,V3.cs] at h0 h1 h2 ⊢
 refine ACall_is h0 ?_
 simp [go_sem]
 refine ACall_is h1 ?_
 simp [go_sem]
 refine ACall_is h2 ?_
 simp [go_sem]
 refine DCall_is (hc y z hy hz) ?_
 simp [go_sem]
 refine DCall_is (hd x (crs y z) hx (crs_within hy hz)) ?_
 simp [go_sem,ref04_Det.r,det3]
theorem ref07_Volume6_ok {f fc fd:FuncId} (hf:FnOk P f (ref07_Volume6.c fc fd) ref07_Volume6.r ref07_Volume6.n) (hc:CheckC P fc) (hd:DetC P fd):VolC P f:=mesh_Volume6_ok hm hf hc hd
end
end Go.Abs
