/- Part of the library on which the proof stands: an abstract machine, its values and its soundness against the model; or what functions of the program do to such values. -/
import Derived.Test.YtcdjgldeiaiaoaaGreatGoRevC
import Derived.Test.YtcdjgldeiaiaoaaGreatAbsSS
set_option linter.unusedVariables false
set_option linter.unusedSimpArgs false
namespace Go.Abs
def ref07_Same.c:C :=(.seq (.reg [⟨some 2,none,.box (.t 0)⟩,⟨some 3,none,.box (.t 1)⟩,⟨some 4,none,.mv (.c (.b false))⟩]) (.seq (.seq (.reg [⟨some 7,none,.fa 0 (.t 2)⟩,⟨some 8,none,.ld none (.t 7)⟩,⟨some 9,none,.len 0 (.t 8)⟩,⟨some 10,none,.fa 0 (.t 3)⟩,⟨some 11,none,.ld none (.t 10)⟩,⟨some 12,none,.len 0 (.t 11)⟩,⟨some 13,none,.bin .neq (.t 9) (.t 12)⟩,⟨some 14,none,.mv (.t 13)⟩,⟨some 15,(some (14,false)),.fa 1 (.t 2)⟩,⟨some 16,(some (14,false)),.ld none (.t 15)⟩,⟨some 17,(some (14,false)),.len 0 (.t 16)⟩,⟨some 18,(some (14,false)),.fa 1 (.t 3)⟩,⟨some 19,(some (14,false)),.ld none (.t 18)⟩,⟨some 20,(some (14,false)),.len 0 (.t 19)⟩,
 ⟨some 21,(some (14,false)),.bin .neq (.t 17) (.t 20)⟩,⟨some 22,none,.pick (.t 14) (.c (.b true)) (.t 21)⟩]) (.ite (.t 22) (.seq (.reg [⟨some 4,none,.mv (.c (.b false))⟩]) .ret) .skip)) (.seq (.seq (.reg [⟨some 23,none,.fa 0 (.t 2)⟩,⟨some 24,none,.ld none (.t 23)⟩,⟨some 25,none,.len 0 (.t 24)⟩,⟨some 26,none,.mv (.c (.i .i64 0))⟩]) (.blk 0 (.loop (.seq (.reg [⟨some 27,none,.bin .lss (.t 26) (.t 25)⟩]) (.seq (.ite (.t 27) .skip (.exit 0)) (.seq (.blk 1 (.seq (.reg [⟨some 28,none,.mv (.t 26)⟩,⟨some 5,none,.mv (.t 28)⟩]) (.seq (.drw [⟨some 29,none,.fa 0 (.t 2)⟩,⟨some 30,none,.ld none (.t 29)⟩,⟨some 31,none,.mv (.t 5)⟩,
 ⟨some 32,none,.ia 3 (.t 30) (.t 31)⟩,⟨some 33,none,.ld (some 3) (.t 32)⟩,⟨some 34,none,.fa 0 (.t 3)⟩,⟨some 35,none,.ld none (.t 34)⟩,⟨some 36,none,.mv (.t 5)⟩,⟨some 37,none,.ia 3 (.t 35) (.t 36)⟩,⟨some 38,none,.ld (some 3) (.t 37)⟩,⟨some 39,none,.eqa [1,1,1] true (.t 33) (.t 38)⟩] []) (.ite (.t 39) (.seq (.reg [⟨some 4,none,.mv (.c (.b false))⟩]) .ret) .skip)))) (.reg [⟨some 40,none,.bin .add (.t 26) (.c (.i .i64 1))⟩,⟨some 26,none,.mv (.t 40)⟩]))))))) (.seq (.seq (.reg [⟨some 41,none,.fa 1 (.t 2)⟩,⟨some 42,none,.ld none (.t 41)⟩,⟨some 43,none,.len 0 (.t 42)⟩,⟨some 44,none,.mv (.c (.i .i64 0))⟩])
 (.blk 2 (.loop (.seq (.reg [⟨some 45,none,.bin .lss (.t 44) (.t 43)⟩]) (.seq (.ite (.t 45) .skip (.exit 2)) (.seq (.blk 3 (.seq (.reg [⟨some 46,none,.mv (.t 44)⟩,⟨some 6,none,.mv (.t 46)⟩]) (.seq (.drw [⟨some 47,none,.fa 1 (.t 2)⟩,⟨some 48,none,.ld none (.t 47)⟩,⟨some 49,none,.mv (.t 6)⟩,⟨some 50,none,.ia 3 (.t 48) (.t 49)⟩,⟨some 51,none,.ld (some 3) (.t 50)⟩,⟨some 52,none,.fa 1 (.t 3)⟩,⟨some 53,none,.ld none (.t 52)⟩,⟨some 54,none,.mv (.t 6)⟩,⟨some 55,none,.ia 3 (.t 53) (.t 54)⟩,⟨some 56,none,.ld (some 3) (.t 55)⟩,⟨some 57,none,.eqa [1,1,1] true (.t 51) (.t 56)⟩] []) (.ite (.t 57) (.seq (.reg [
 ⟨some 4,none,.mv (.c (.b false))⟩]) .ret) .skip)))) (.reg [⟨some 58,none,.bin .add (.t 44) (.c (.i .i64 1))⟩,⟨some 44,none,.mv (.t 58)⟩]))))))) (.seq (.reg [⟨some 4,none,.mv (.c (.b true))⟩]) .ret)))))
def ref07_Same.r:List Rr:=[.tmp 4]
abbrev ref07_Same.n:Nat:=59
def slices_Clone_api_Vec_api_Vec.c:C :=(.seq (.reg [⟨some 2,none,.mv (.c .nil)⟩]) (.seq (.seq (.reg [⟨some 3,none,.mv (.t 0)⟩,⟨some 4,none,.isn false (.t 3)⟩]) (.ite (.t 4) (.seq (.reg [⟨some 2,none,.mv (.c .nil)⟩]) .ret) .skip)) (.seq (.reg [⟨some 5,none,.bso 3 0 [(.i .i64 0),(.i .i64 0),(.i .i64 0)] []⟩,⟨some 6,none,.mv (.t 0)⟩,⟨some 7,none,.app 3 24 (.t 5) (.t 6)⟩,⟨some 2,none,.mv (.t 7)⟩]) .ret)))
def slices_Clone_api_Vec_api_Vec.r:List Rr:=[.tmp 2]
abbrev slices_Clone_api_Vec_api_Vec.n:Nat:=8
def slices_Clone_api_Tri_api_Tri.c:C :=(.seq (.reg [⟨some 2,none,.mv (.c .nil)⟩]) (.seq (.seq (.reg [⟨some 3,none,.mv (.t 0)⟩,⟨some 4,none,.isn false (.t 3)⟩]) (.ite (.t 4) (.seq (.reg [⟨some 2,none,.mv (.c .nil)⟩]) .ret) .skip)) (.seq (.reg [⟨some 5,none,.bso 3 0 [(.i .i64 0),(.i .i64 0),(.i .i64 0)] []⟩,⟨some 6,none,.mv (.t 0)⟩,⟨some 7,none,.app 3 24 (.t 5) (.t 6)⟩,⟨some 2,none,.mv (.t 7)⟩]) .ret)))
def slices_Clone_api_Tri_api_Tri.r:List Rr:=[.tmp 2]
abbrev slices_Clone_api_Tri_api_Tri.n:Nat:=8
def vec_Det.c (vec_small vec_Cross vec_Dot:FuncId):C :=(.seq (.reg [⟨some 3,none,.box (.t 0)⟩,⟨some 4,none,.box (.t 1)⟩,⟨some 5,none,.box (.t 2)⟩,⟨some 6,none,.mv (.c (.i .i64 0))⟩]) (.seq (.seq (.reg [⟨some 7,none,.ld (some 3) (.t 4)⟩,⟨some 8,none,.call vec_small [.t 7]⟩,⟨some 9,none,.un .not (.t 8)⟩,⟨some 10,none,.mv (.t 9)⟩,⟨some 11,(some (10,false)),.ld (some 3) (.t 5)⟩,⟨some 12,(some (10,false)),.call vec_small [.t 11]⟩,⟨some 13,(some (10,false)),.un .not (.t 12)⟩,⟨some 14,none,.pick (.t 10) (.c (.b true)) (.t 13)⟩]) (.ite (.t 14) (.seq (.reg [⟨some 6,none,.mv (.c (.i .i64 0))⟩]) .ret) .skip))
 (.seq (.drw [⟨some 15,none,.ld (some 3) (.t 3)⟩,⟨some 16,none,.ld (some 3) (.t 4)⟩,⟨some 17,none,.ld (some 3) (.t 5)⟩,⟨some 18,none,.call vec_Cross [.t 16,.t 17]⟩,⟨some 19,none,.call vec_Dot [.t 15,.t 18]⟩,⟨some 6,none,.mv (.t 19)⟩] [[],[],[],[0],[],[]]) .ret)))
def vec_Det.r:List Rr:=[.tmp 6]
abbrev vec_Det.n:Nat:=20
def vec_small.c (vec_within:FuncId):C :=(.seq (.reg [⟨some 1,none,.box (.t 0)⟩,⟨some 2,none,.mv (.c (.b false))⟩]) (.seq (.reg [⟨some 3,none,.ld (some 3) (.t 1)⟩,⟨some 4,none,.call vec_within [.t 3,(.c (.i .i64 131072))]⟩,⟨some 2,none,.mv (.t 4)⟩]) .ret))
def vec_small.r:List Rr:=[.tmp 2]
abbrev vec_small.n:Nat:=5
def vec_Dot.c (vec_small vec_within:FuncId):C :=(.seq (.reg [⟨some 2,none,.box (.t 0)⟩,⟨some 3,none,.box (.t 1)⟩,⟨some 4,none,.mv (.c (.i .i64 0))⟩]) (.seq (.seq (.reg [⟨some 5,none,.ld (some 3) (.t 2)⟩,⟨some 6,none,.call vec_small [.t 5]⟩,⟨some 7,none,.un .not (.t 6)⟩,⟨some 8,none,.mv (.t 7)⟩,⟨some 9,(some (8,false)),.ld (some 3) (.t 3)⟩,⟨some 10,(some (8,false)),.call vec_within [.t 9,(.c (.i .i64 1099511627776))]⟩,⟨some 11,(some (8,false)),.un .not (.t 10)⟩,⟨some 12,none,.pick (.t 8) (.c (.b true)) (.t 11)⟩]) (.ite (.t 12) (.seq (.reg [⟨some 4,none,.mv (.c (.i .i64 0))⟩]) .ret) .skip)) (.seq
 (.reg [⟨some 13,none,.fa 0 (.t 2)⟩,⟨some 14,none,.ld none (.t 13)⟩,⟨some 15,none,.fa 0 (.t 3)⟩,⟨some 16,none,.ld none (.t 15)⟩,⟨some 17,none,.bin .mul (.t 14) (.t 16)⟩,⟨some 18,none,.fa 1 (.t 2)⟩,⟨some 19,none,.ld none (.t 18)⟩,⟨some 20,none,.fa 1 (.t 3)⟩,⟨some 21,none,.ld none (.t 20)⟩,⟨some 22,none,.bin .mul (.t 19) (.t 21)⟩,⟨some 23,none,.bin .add (.t 17) (.t 22)⟩,⟨some 24,none,.fa 2 (.t 2)⟩,⟨some 25,none,.ld none (.t 24)⟩,⟨some 26,none,.fa 2 (.t 3)⟩,⟨some 27,none,.ld none (.t 26)⟩,⟨some 28,none,.bin .mul (.t 25) (.t 27)⟩,⟨some 29,none,.bin .add (.t 23) (.t 28)⟩,⟨some 4,none,.mv (.t 29)⟩])
 .ret)))
def vec_Dot.r:List Rr:=[.tmp 4]
abbrev vec_Dot.n:Nat:=30
def vec_Cross.c (vec_small:FuncId):C :=(.seq (.reg [⟨some 2,none,.box (.t 0)⟩,⟨some 3,none,.box (.t 1)⟩,⟨some 4,none,.alloc [(.i .i64 0),(.i .i64 0),(.i .i64 0)]⟩]) (.seq (.seq (.reg [⟨some 5,none,.ld (some 3) (.t 2)⟩,⟨some 6,none,.call vec_small [.t 5]⟩,⟨some 7,none,.un .not (.t 6)⟩,⟨some 8,none,.mv (.t 7)⟩,⟨some 9,(some (8,false)),.ld (some 3) (.t 3)⟩,⟨some 10,(some (8,false)),.call vec_small [.t 9]⟩,⟨some 11,(some (8,false)),.un .not (.t 10)⟩,⟨some 12,none,.pick (.t 8) (.c (.b true)) (.t 11)⟩]) (.ite (.t 12) (.seq (.reg [⟨some 13,none,.build [(.i .i64 0),(.i .i64 0),(.i .i64 0)] []⟩,⟨none,none,.st 3 (.t 4) (.t 13)⟩])
 .ret) .skip)) (.seq (.reg [⟨some 14,none,.fa 1 (.t 2)⟩,⟨some 15,none,.ld none (.t 14)⟩,⟨some 16,none,.fa 2 (.t 3)⟩,⟨some 17,none,.ld none (.t 16)⟩,⟨some 18,none,.bin .mul (.t 15) (.t 17)⟩,⟨some 19,none,.fa 2 (.t 2)⟩,⟨some 20,none,.ld none (.t 19)⟩,⟨some 21,none,.fa 1 (.t 3)⟩,⟨some 22,none,.ld none (.t 21)⟩,⟨some 23,none,.bin .mul (.t 20) (.t 22)⟩,⟨some 24,none,.bin .sub (.t 18) (.t 23)⟩,⟨some 25,none,.fa 2 (.t 2)⟩,⟨some 26,none,.ld none (.t 25)⟩,⟨some 27,none,.fa 0 (.t 3)⟩,⟨some 28,none,.ld none (.t 27)⟩,⟨some 29,none,.bin .mul (.t 26) (.t 28)⟩,⟨some 30,none,.fa 0 (.t 2)⟩,⟨some 31,none,.ld none (.t 30)⟩,
 ⟨some 32,none,.fa 2 (.t 3)⟩,⟨some 33,none,.ld none (.t 32)⟩,⟨some 34,none,.bin .mul (.t 31) (.t 33)⟩,⟨some 35,none,.bin .sub (.t 29) (.t 34)⟩,⟨some 36,none,.fa 0 (.t 2)⟩,⟨some 37,none,.ld none (.t 36)⟩,⟨some 38,none,.fa 1 (.t 3)⟩,⟨some 39,none,.ld none (.t 38)⟩,⟨some 40,none,.bin .mul (.t 37) (.t 39)⟩,⟨some 41,none,.fa 1 (.t 2)⟩,⟨some 42,none,.ld none (.t 41)⟩,⟨some 43,none,.fa 0 (.t 3)⟩,⟨some 44,none,.ld none (.t 43)⟩,⟨some 45,none,.bin .mul (.t 42) (.t 44)⟩,⟨some 46,none,.bin .sub (.t 40) (.t 45)⟩,⟨some 47,none,.build [(.i .i64 0),(.i .i64 0),(.i .i64 0)] [(0,1,(.t 24)),(1,1,(.t 35)),(2,1,(.t 46))]⟩,
 ⟨none,none,.st 3 (.t 4) (.t 47)⟩]) .ret)))
def vec_Cross.r:List Rr:=[.cell 4 (some 3)]
abbrev vec_Cross.n:Nat:=48
def mesh_Volume6.c (mesh_Check vec_Det:FuncId):C :=(.seq (.reg [⟨some 1,none,.box (.t 0)⟩,⟨some 2,none,.mv (.c (.i .i64 0))⟩]) (.seq (.seq (.reg [⟨some 6,none,.ld (some 2) (.t 1)⟩,⟨some 7,none,.call mesh_Check [.t 6]⟩,⟨some 8,none,.bin .neq (.t 7) (.c (.i .i64 0))⟩]) (.ite (.t 8) (.seq (.reg [⟨some 2,none,.mv (.c (.i .i64 0))⟩]) .ret) .skip)) (.seq (.reg [⟨some 3,none,.mv (.c (.i .i64 0))⟩]) (.seq (.seq (.reg [⟨some 9,none,.fa 1 (.t 1)⟩,⟨some 10,none,.ld none (.t 9)⟩,⟨some 11,none,.len 0 (.t 10)⟩,⟨some 12,none,.mv (.c (.i .i64 0))⟩]) (.blk 0 (.loop (.seq (.reg [⟨some 13,none,.bin .lss (.t 12) (.t 11)⟩])
 (.seq (.ite (.t 13) .skip (.exit 0)) (.seq (.blk 1 (.seq (.reg [⟨some 14,none,.ia 3 (.t 10) (.t 12)⟩,⟨some 15,none,.ld (some 3) (.t 14)⟩,⟨some 5,none,.alloc [(.i .i64 0),(.i .i64 0),(.i .i64 0)]⟩,⟨none,none,.st 3 (.t 5) (.t 15)⟩]) (.drw [⟨some 16,none,.mv (.t 3)⟩,⟨some 17,none,.fa 0 (.t 1)⟩,⟨some 18,none,.ld none (.t 17)⟩,⟨some 19,none,.fa 0 (.t 5)⟩,⟨some 20,none,.ld none (.t 19)⟩,⟨some 21,none,.ia 3 (.t 18) (.t 20)⟩,⟨some 22,none,.ld (some 3) (.t 21)⟩,⟨some 23,none,.fa 0 (.t 1)⟩,⟨some 24,none,.ld none (.t 23)⟩,⟨some 25,none,.fa 1 (.t 5)⟩,⟨some 26,none,.ld none (.t 25)⟩,⟨some 27,none,.ia 3 (.t 24) (.t 26)⟩,
 ⟨some 28,none,.ld (some 3) (.t 27)⟩,⟨some 29,none,.fa 0 (.t 1)⟩,⟨some 30,none,.ld none (.t 29)⟩,⟨some 31,none,.fa 2 (.t 5)⟩,⟨some 32,none,.ld none (.t 31)⟩,⟨some 33,none,.ia 3 (.t 30) (.t 32)⟩,⟨some 34,none,.ld (some 3) (.t 33)⟩,⟨some 35,none,.call vec_Det [.t 22,.t 28,.t 34]⟩,⟨some 36,none,.bin .add (.t 16) (.t 35)⟩,⟨some 3,none,.mv (.t 36)⟩] []))) (.reg [⟨some 37,none,.bin .add (.t 12) (.c (.i .i64 1))⟩,⟨some 12,none,.mv (.t 37)⟩]))))))) (.seq (.reg [⟨some 38,none,.mv (.t 3)⟩,⟨some 2,none,.mv (.t 38)⟩]) .ret)))))
def mesh_Volume6.r:List Rr:=[.tmp 2]
abbrev mesh_Volume6.n:Nat:=39
end Go.Abs
set_option linter.unusedVariables false
set_option linter.unusedSimpArgs false
namespace Go.Abs
def AwakeC (P:Program) (f:FuncId):Prop:=CallIs P f [] (.b true)
theorem par_0 {us:List V} (h:B5 [] us):us=[]:=h
end Go.Abs
set_option linter.unusedVariables false
set_option linter.unusedSimpArgs false
namespace Go.Abs
def Kw (P:Program) (f:FuncId) (sz:Nat):Prop:=∀els:List (List V),els.all (λel=>el.all V.isD)=true->els.length<=1000000->NewC P f [.l sz els] (λr h=>r=.own 0 1 0 els.length/\h=[.arr 1 sz els])
theorem isD_cl {x:V} (n:Nat) (h:x.isD=true):x.cl n=true:=by cases x<;>simp[V.isD]at h<;>simp[V.cl,V.cl1,V.cl0]
section
variable {P:Program} (hm:P.follows .mixedOrders=true)
include hm
theorem Wa {f:FuncId} (hf:Q9 P f slices_Clone_api_Vec_api_Vec.c slices_Clone_api_Vec_api_Vec.r slices_Clone_api_Vec_api_Vec.n):Kw P f 3:=by
 intro els hel hlen
 refine ACall_ghost 3 ?_
 refine new_of hm hf (Nat.le_of_ble_eq_true rfl) ?_
 unfold slices_Clone_api_Vec_api_Vec.c
 cases els with
 | nil=>simp[go_sem,slices_Clone_api_Vec_api_Vec.r]
 | cons e l =>
   simp only[List.length_cons]at hlen
   simp[go_sem,slices_Clone_api_Vec_api_Vec.r]
   simp only[List.all_cons,Bool.and_eq_true,List.all_eq_true]at hel
   exact⟨⟨by omega,by omega⟩,λx hx=>isD_cl 1 (hel.1 x hx),λa ha x hx=>isD_cl 1 (hel.2 a ha x hx)⟩
theorem slices_CloneT_ok {f:FuncId} (hf:Q9 P f slices_Clone_api_Tri_api_Tri.c slices_Clone_api_Tri_api_Tri.r slices_Clone_api_Tri_api_Tri.n):Kw P f 3:=Wa hm hf
end
end Go.Abs
