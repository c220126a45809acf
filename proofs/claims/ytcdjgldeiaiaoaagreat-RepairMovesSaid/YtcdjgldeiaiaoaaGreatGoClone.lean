/- Part of the library on which the proof stands: an abstract machine, its values and its soundness against the model; or what functions of the program do to such values. -/
import Derived.Test.YtcdjgldeiaiaoaaGreatGoRevC
import Derived.Test.YtcdjgldeiaiaoaaGreatAbsSS
set_option linter.unusedVariables false
set_option linter.unusedSimpArgs false
namespace Go.Abs
def shapes_Move.c (mesh_Check shapes_near shapes_Move_1 shapes_change shapes_checked:FuncId):C :=(.seq (.reg [⟨some 2,none,.box (.t 0)⟩,⟨some 3,none,.box (.t 1)⟩,⟨some 4,none,.alloc [.nil,.nil]⟩,⟨some 5,none,.mv (.c (.i .i64 0))⟩]) (.seq (.blk 0 (.seq (.reg [⟨some 7,none,.ld (some 2) (.t 2)⟩,⟨some 8,none,.call mesh_Check [.t 7]⟩,⟨some 9,none,.bin .neq (.t 8) (.c (.i .i64 0))⟩,⟨some 6,none,.mv (.t 9)⟩]) (.ite (.t 6) (.seq (.reg [⟨some 10,none,.build [.nil,.nil] []⟩,⟨none,none,.st 2 (.t 4) (.t 10)⟩,⟨some 5,none,.mv (.c (.i .i64 1))⟩]) .ret) (.seq (.reg [⟨some 12,none,.fa 0 (.t 2)⟩,⟨some 13,none,.ld none (.t 12)⟩,
 ⟨some 14,none,.len 0 (.t 13)⟩,⟨some 15,none,.bin .gtr (.t 14) (.c (.i .i64 0))⟩,⟨some 16,none,.mv (.t 15)⟩,⟨some 17,(some (16,true)),.ld (some 3) (.t 3)⟩,⟨some 18,(some (16,true)),.call shapes_near [.t 17]⟩,⟨some 19,(some (16,true)),.un .not (.t 18)⟩,⟨some 20,none,.pick (.t 16) (.t 19) (.c (.b false))⟩,⟨some 11,none,.mv (.t 20)⟩]) (.ite (.t 11) (.seq (.reg [⟨some 21,none,.build [.nil,.nil] []⟩,⟨none,none,.st 2 (.t 4) (.t 21)⟩,⟨some 5,none,.mv (.c (.i .i64 8))⟩]) .ret) .skip))))) (.seq (.reg [⟨some 22,none,.ld (some 2) (.t 2)⟩,⟨some 23,none,.mkf shapes_Move_1 [.t 3]⟩,⟨some 24,none,.call shapes_change [.t 22,.t 23]⟩,
 ⟨some 25,none,.call shapes_checked [.t 24]⟩,⟨some 26,none,.ext (.t 25) 0⟩,⟨some 27,none,.ext (.t 25) 1⟩,⟨none,none,.st 2 (.t 4) (.t 26)⟩,⟨some 5,none,.mv (.t 27)⟩]) .ret)))
def shapes_Move.r:List Rr:=[.cell 4 (some 2),.tmp 5]
abbrev shapes_Move.n:Nat:=28
def shapes_fits.c (vec_Valid:FuncId):C :=(.seq (.reg [⟨some 2,none,.mv (.c (.b false))⟩]) (.seq (.seq (.reg [⟨some 5,none,.mv (.t 0)⟩,⟨some 6,none,.len 0 (.t 5)⟩,⟨some 7,none,.mv (.c (.i .i64 0))⟩]) (.blk 0 (.loop (.seq (.reg [⟨some 8,none,.bin .lss (.t 7) (.t 6)⟩]) (.seq (.ite (.t 8) .skip (.exit 0)) (.seq (.blk 1 (.seq (.reg [⟨some 9,none,.ia 3 (.t 5) (.t 7)⟩,⟨some 10,none,.ld (some 3) (.t 9)⟩,⟨some 4,none,.alloc [(.i .i64 0),(.i .i64 0),(.i .i64 0)]⟩,⟨none,none,.st 3 (.t 4) (.t 10)⟩]) (.seq (.reg [⟨some 11,none,.ld (some 3) (.t 4)⟩,⟨some 12,none,.call vec_Valid [.t 11]⟩,⟨some 13,none,.un .not (.t 12)⟩])
 (.ite (.t 13) (.seq (.reg [⟨some 2,none,.mv (.c (.b false))⟩]) .ret) .skip)))) (.reg [⟨some 14,none,.bin .add (.t 7) (.c (.i .i64 1))⟩,⟨some 7,none,.mv (.t 14)⟩]))))))) (.seq (.reg [⟨some 2,none,.mv (.c (.b true))⟩]) .ret)))
def shapes_fits.r:List Rr:=[.tmp 2]
abbrev shapes_fits.n:Nat:=15
def shapes_near.c:C :=(.seq (.reg [⟨some 1,none,.box (.t 0)⟩,⟨some 2,none,.mv (.c (.b false))⟩]) (.seq (.reg [⟨some 3,none,.fa 0 (.t 1)⟩,⟨some 4,none,.ld none (.t 3)⟩,⟨some 5,none,.fa 1 (.t 1)⟩,⟨some 6,none,.ld none (.t 5)⟩,⟨some 7,none,.fa 2 (.t 1)⟩,⟨some 8,none,.ld none (.t 7)⟩,⟨some 9,none,.mx [.t 4,.t 6,.t 8]⟩,⟨some 10,none,.bin .leq (.t 9) (.c (.i .i64 131072))⟩,⟨some 11,none,.mv (.t 10)⟩,⟨some 12,(some (11,true)),.fa 0 (.t 1)⟩,⟨some 13,(some (11,true)),.ld none (.t 12)⟩,⟨some 14,(some (11,true)),.fa 1 (.t 1)⟩,⟨some 15,(some (11,true)),.ld none (.t 14)⟩,⟨some 16,(some (11,true)),.fa 2 (.t 1)⟩,
 ⟨some 17,(some (11,true)),.ld none (.t 16)⟩,⟨some 18,(some (11,true)),.mn [.t 13,.t 15,.t 17]⟩,⟨some 19,(some (11,true)),.bin .geq (.t 18) (.c (.i .i64 (-131072)))⟩,⟨some 20,none,.pick (.t 11) (.t 19) (.c (.b false))⟩,⟨some 2,none,.mv (.t 20)⟩]) .ret))
def shapes_near.r:List Rr:=[.tmp 2]
abbrev shapes_near.n:Nat:=21
def shapes_plus.c:C :=(.seq (.reg [⟨some 2,none,.box (.t 0)⟩,⟨some 3,none,.box (.t 1)⟩,⟨some 4,none,.alloc [(.i .i64 0),(.i .i64 0),(.i .i64 0)]⟩]) (.seq (.reg [⟨some 5,none,.fa 0 (.t 2)⟩,⟨some 6,none,.ld none (.t 5)⟩,⟨some 7,none,.fa 0 (.t 3)⟩,⟨some 8,none,.ld none (.t 7)⟩,⟨some 9,none,.bin .add (.t 6) (.t 8)⟩,⟨some 10,none,.fa 1 (.t 2)⟩,⟨some 11,none,.ld none (.t 10)⟩,⟨some 12,none,.fa 1 (.t 3)⟩,⟨some 13,none,.ld none (.t 12)⟩,⟨some 14,none,.bin .add (.t 11) (.t 13)⟩,⟨some 15,none,.fa 2 (.t 2)⟩,⟨some 16,none,.ld none (.t 15)⟩,⟨some 17,none,.fa 2 (.t 3)⟩,⟨some 18,none,.ld none (.t 17)⟩,⟨some 19,none,.bin .add (.t 16) (.t 18)⟩,
 ⟨some 20,none,.build [(.i .i64 0),(.i .i64 0),(.i .i64 0)] [(0,1,(.t 9)),(1,1,(.t 14)),(2,1,(.t 19))]⟩,⟨none,none,.st 3 (.t 4) (.t 20)⟩]) .ret))
def shapes_plus.r:List Rr:=[.cell 4 (some 3)]
abbrev shapes_plus.n:Nat:=21
def slices_Clone_api_Vec_api_Vec.c:C :=(.seq (.reg [⟨some 2,none,.mv (.c .nil)⟩]) (.seq (.seq (.reg [⟨some 3,none,.mv (.t 0)⟩,⟨some 4,none,.isn false (.t 3)⟩]) (.ite (.t 4) (.seq (.reg [⟨some 2,none,.mv (.c .nil)⟩]) .ret) .skip)) (.seq (.reg [⟨some 5,none,.bso 3 0 [(.i .i64 0),(.i .i64 0),(.i .i64 0)] []⟩,⟨some 6,none,.mv (.t 0)⟩,⟨some 7,none,.app 3 24 (.t 5) (.t 6)⟩,⟨some 2,none,.mv (.t 7)⟩]) .ret)))
def slices_Clone_api_Vec_api_Vec.r:List Rr:=[.tmp 2]
abbrev slices_Clone_api_Vec_api_Vec.n:Nat:=8
def shapes_checked.c (shapes_fits:FuncId):C :=(.seq (.reg [⟨some 1,none,.box (.t 0)⟩,⟨some 2,none,.alloc [.nil,.nil]⟩,⟨some 3,none,.mv (.c (.i .i64 0))⟩]) (.seq (.seq (.reg [⟨some 4,none,.fa 0 (.t 1)⟩,⟨some 5,none,.ld none (.t 4)⟩,⟨some 6,none,.call shapes_fits [.t 5]⟩,⟨some 7,none,.un .not (.t 6)⟩]) (.ite (.t 7) (.seq (.reg [⟨some 8,none,.build [.nil,.nil] []⟩,⟨none,none,.st 2 (.t 2) (.t 8)⟩,⟨some 3,none,.mv (.c (.i .i64 8))⟩]) .ret) .skip)) (.seq (.reg [⟨some 9,none,.ld (some 2) (.t 1)⟩,⟨none,none,.st 2 (.t 2) (.t 9)⟩,⟨some 3,none,.mv (.c (.i .i64 0))⟩]) .ret)))
def shapes_checked.r:List Rr:=[.cell 2 (some 2),.tmp 3]
abbrev shapes_checked.n:Nat:=10
def shapes_change.c (slices_Clone_api_Vec_api_Vec slices_Clone_api_Tri_api_Tri:FuncId):C :=(.seq (.reg [⟨some 2,none,.box (.t 0)⟩,⟨some 4,none,.alloc [.nil,.nil]⟩]) (.seq (.drw [⟨some 8,none,.fa 0 (.t 2)⟩,⟨some 9,none,.ld none (.t 8)⟩,⟨some 10,none,.call slices_Clone_api_Vec_api_Vec [.t 9]⟩,⟨some 11,none,.fa 1 (.t 2)⟩,⟨some 12,none,.ld none (.t 11)⟩,⟨some 13,none,.call slices_Clone_api_Tri_api_Tri [.t 12]⟩,⟨some 14,none,.build [.nil,.nil] [(0,1,(.t 10)),(1,1,(.t 13))]⟩,⟨some 5,none,.alloc [.nil,.nil]⟩,⟨none,none,.st 2 (.t 5) (.t 14)⟩] [[],[],[],[2],[2],[],[],[],[]]) (.seq (.seq (.reg [⟨some 15,none,.fa 0 (.t 5)⟩,
 ⟨some 16,none,.ld none (.t 15)⟩,⟨some 17,none,.len 0 (.t 16)⟩,⟨some 18,none,.mv (.c (.i .i64 0))⟩]) (.blk 0 (.loop (.seq (.reg [⟨some 19,none,.bin .lss (.t 18) (.t 17)⟩]) (.seq (.ite (.t 19) .skip (.exit 0)) (.seq (.blk 1 (.seq (.reg [⟨some 20,none,.mv (.t 18)⟩,⟨some 21,none,.ia 3 (.t 16) (.t 18)⟩,⟨some 22,none,.ld (some 3) (.t 21)⟩,⟨some 7,none,.alloc [(.i .i64 0),(.i .i64 0),(.i .i64 0)]⟩,⟨some 6,none,.mv (.t 20)⟩,⟨none,none,.st 3 (.t 7) (.t 22)⟩]) (.drw [⟨some 23,none,.fa 0 (.t 5)⟩,⟨some 24,none,.ld none (.t 23)⟩,⟨some 25,none,.mv (.t 6)⟩,⟨some 26,none,.mv (.t 1)⟩,⟨some 27,none,.ld (some 3) (.t 7)⟩,
 ⟨some 28,none,.callv (.t 26) [.t 27]⟩,⟨some 29,none,.ia 3 (.t 24) (.t 25)⟩,⟨none,none,.st 3 (.t 29) (.t 28)⟩] [[],[],[],[],[],[0,1],[],[]]))) (.reg [⟨some 30,none,.bin .add (.t 18) (.c (.i .i64 1))⟩,⟨some 18,none,.mv (.t 30)⟩]))))))) (.seq (.reg [⟨some 31,none,.ld (some 2) (.t 5)⟩,⟨none,none,.st 2 (.t 4) (.t 31)⟩]) .ret))))
def shapes_change.r:List Rr:=[.cell 4 (some 2)]
abbrev shapes_change.n:Nat:=32
def shapes_Move_1.c (shapes_plus:FuncId):C :=(.seq (.reg [⟨some 2,none,.box (.t 0)⟩,⟨some 3,none,.alloc [(.i .i64 0),(.i .i64 0),(.i .i64 0)]⟩]) (.seq (.reg [⟨some 4,none,.ld (some 3) (.t 2)⟩,⟨some 5,none,.ld (some 3) (.t 1)⟩,⟨some 6,none,.call shapes_plus [.t 4,.t 5]⟩,⟨none,none,.st 3 (.t 3) (.t 6)⟩]) .ret))
def shapes_Move_1.r:List Rr:=[.cell 3 (some 3)]
abbrev shapes_Move_1.n:Nat:=7
def slices_Clone_api_Tri_api_Tri.c:C :=(.seq (.reg [⟨some 2,none,.mv (.c .nil)⟩]) (.seq (.seq (.reg [⟨some 3,none,.mv (.t 0)⟩,⟨some 4,none,.isn false (.t 3)⟩]) (.ite (.t 4) (.seq (.reg [⟨some 2,none,.mv (.c .nil)⟩]) .ret) .skip)) (.seq (.reg [⟨some 5,none,.bso 3 0 [(.i .i64 0),(.i .i64 0),(.i .i64 0)] []⟩,⟨some 6,none,.mv (.t 0)⟩,⟨some 7,none,.app 3 24 (.t 5) (.t 6)⟩,⟨some 2,none,.mv (.t 7)⟩]) .ret)))
def slices_Clone_api_Tri_api_Tri.r:List Rr:=[.tmp 2]
abbrev slices_Clone_api_Tri_api_Tri.n:Nat:=8
def vec_Det.c (vec_small vec_Cross vec_Dot:FuncId):C :=(.seq (.reg [⟨some 3,none,.box (.t 0)⟩,⟨some 4,none,.box (.t 1)⟩,⟨some 5,none,.box (.t 2)⟩,⟨some 6,none,.mv (.c (.i .i64 0))⟩]) (.seq (.seq (.reg [⟨some 7,none,.ld (some 3) (.t 4)⟩,⟨some 8,none,.call vec_small [.t 7]⟩,⟨some 9,none,.un .not (.t 8)⟩,⟨some 10,none,.mv (.t 9)⟩,⟨some 11,(some (10,false)),.ld (some 3) (.t 5)⟩,⟨some 12,(some (10,false)),.call vec_small [.t 11]⟩,⟨some 13,(some (10,false)),.un .not (.t 12)⟩,⟨some 14,none,.pick (.t 10) (.c (.b true)) (.t 13)⟩]) (.ite (.t 14) (.seq (.reg [⟨some 6,none,.mv (.c (.i .i64 0))⟩]) .ret) .skip))
 (.seq (.drw [⟨some 15,none,.ld (some 3) (.t 3)⟩,⟨some 16,none,.ld (some 3) (.t 4)⟩,⟨some 17,none,.ld (some 3) (.t 5)⟩,⟨some 18,none,.call vec_Cross [.t 16,.t 17]⟩,⟨some 19,none,.call vec_Dot [.t 15,.t 18]⟩,⟨some 6,none,.mv (.t 19)⟩] [[],[],[],[0],[],[]]) .ret)))
def vec_Det.r:List Rr:=[.tmp 6]
abbrev vec_Det.n:Nat:=20
def vec_small.c (vec_within:FuncId):C :=(.seq (.reg [⟨some 1,none,.box (.t 0)⟩,⟨some 2,none,.mv (.c (.b false))⟩]) (.seq (.reg [⟨some 3,none,.ld (some 3) (.t 1)⟩,⟨some 4,none,.call vec_within [.t 3,(.c (.i .i64 131072))]⟩,⟨some 2,none,.mv (.t 4)⟩]) .ret))
def vec_small.r:List Rr:=[.tmp 2]
abbrev vec_small.n:Nat:=5
def vec_Dot.c (vec_small vec_within:FuncId):C :=(.seq (.reg [⟨some 2,none,.box (.t 0)⟩,⟨some 3,none,.box (.t 1)⟩,⟨some 4,none,.mv (.c (.i .i64 0))⟩]) (.seq (.seq (.reg [⟨some 5,none,.ld (some 3) (.t 2)⟩,⟨some 6,none,.call vec_small [.t 5]⟩,⟨some 7,none,.un .not (.t 6)⟩,⟨some 8,none,.mv (.t 7)⟩,⟨some 9,(some (8,false)),.ld (some 3) (.t 3)⟩,⟨some 10,(some (8,false)),.call vec_within [.t 9,(.c (.i .i64 1099511627776))]⟩,⟨some 11,(some (8,false)),.un .not (.t 10)⟩,⟨some 12,none,.pick (.t 8) (.c (.b true)) (.t 11)⟩]) (.ite (.t 12) (.seq (.reg [⟨some 4,none,.mv (.c (.i .i64 0))⟩]) .ret) .skip)) (.seq
 (.reg [⟨some 13,none,.fa 0 (.t 2)⟩,⟨some 14,none,.ld none (.t 13)⟩,⟨some 15,none,.fa 0 (.t 3)⟩,⟨some 16,none,.ld none (.t 15)⟩,⟨some 17,none,.bin .mul (.t 14) (.t 16)⟩,⟨some 18,none,.fa 1 (.t 2)⟩,⟨some 19,none,.ld none (.t 18)⟩,⟨some 20,none,.fa 1 (.t 3)⟩,⟨some 21,none,.ld none (.t 20)⟩,⟨some 22,none,.bin .mul (.t 19) (.t 21)⟩,⟨some 23,none,.bin .add (.t 17) (.t 22)⟩,⟨some 24,none,.fa 2 (.t 2)⟩,⟨some 25,none,.ld none (.t 24)⟩,⟨some 26,none,.fa 2 (.t 3)⟩,⟨some 27,none,.ld none (.t 26)⟩,⟨some 28,none,.bin .mul (.t 25) (.t 27)⟩,⟨some 29,none,.bin .add (.t 23) (.t 28)⟩,⟨some 4,none,.mv (.t 29)⟩])
 .ret)))
def vec_Dot.r:List Rr:=[.tmp 4]
abbrev vec_Dot.n:Nat:=30
def vec_Cross.c (vec_small:FuncId):C :=(.seq (.reg [⟨some 2,none,.box (.t 0)⟩,⟨some 3,none,.box (.t 1)⟩,⟨some 4,none,.alloc [(.i .i64 0),(.i .i64 0),(.i .i64 0)]⟩]) (.seq (.seq (.reg [⟨some 5,none,.ld (some 3) (.t 2)⟩,⟨some 6,none,.call vec_small [.t 5]⟩,⟨some 7,none,.un .not (.t 6)⟩,⟨some 8,none,.mv (.t 7)⟩,⟨some 9,(some (8,false)),.ld (some 3) (.t 3)⟩,⟨some 10,(some (8,false)),.call vec_small [.t 9]⟩,⟨some 11,(some (8,false)),.un .not (.t 10)⟩,⟨some 12,none,.pick (.t 8) (.c (.b true)) (.t 11)⟩]) (.ite (.t 12) (.seq (.reg [⟨some 13,none,.build [(.i .i64 0),(.i .i64 0),(.i .i64 0)] []⟩,⟨none,none,.st 3 (.t 4) (.t 13)⟩])
 .ret) .skip)) (.seq (.reg [⟨some 14,none,.fa 1 (.t 2)⟩,⟨some 15,none,.ld none (.t 14)⟩,⟨some 16,none,.fa 2 (.t 3)⟩,⟨some 17,none,.ld none (.t 16)⟩,⟨some 18,none,.bin .mul (.t 15) (.t 17)⟩,⟨some 19,none,.fa 2 (.t 2)⟩,⟨some 20,none,.ld none (.t 19)⟩,⟨some 21,none,.fa 1 (.t 3)⟩,⟨some 22,none,.ld none (.t 21)⟩,⟨some 23,none,.bin .mul (.t 20) (.t 22)⟩,⟨some 24,none,.bin .sub (.t 18) (.t 23)⟩,⟨some 25,none,.fa 2 (.t 2)⟩,⟨some 26,none,.ld none (.t 25)⟩,⟨some 27,none,.fa 0 (.t 3)⟩,⟨some 28,none,.ld none (.t 27)⟩,⟨some 29,none,.bin .mul (.t 26) (.t 28)⟩,⟨some 30,none,.fa 0 (.t 2)⟩,⟨some 31,none,.ld none (.t 30)⟩,
 ⟨some 32,none,.fa 2 (.t 3)⟩,⟨some 33,none,.ld none (.t 32)⟩,⟨some 34,none,.bin .mul (.t 31) (.t 33)⟩,⟨some 35,none,.bin .sub (.t 29) (.t 34)⟩,⟨some 36,none,.fa 0 (.t 2)⟩,⟨some 37,none,.ld none (.t 36)⟩,⟨some 38,none,.fa 1 (.t 3)⟩,⟨some 39,none,.ld none (.t 38)⟩,⟨some 40,none,.bin .mul (.t 37) (.t 39)⟩,⟨some 41,none,.fa 1 (.t 2)⟩,⟨some 42,none,.ld none (.t 41)⟩,⟨some 43,none,.fa 0 (.t 3)⟩,⟨some 44,none,.ld none (.t 43)⟩,⟨some 45,none,.bin .mul (.t 42) (.t 44)⟩,⟨some 46,none,.bin .sub (.t 40) (.t 45)⟩,⟨some 47,none,.build [(.i .i64 0),(.i .i64 0),(.i .i64 0)] [(0,1,(.t 24)),(1,1,(.t 35)),(2,1,(.t 46))]⟩,
 ⟨none,none,.st 3 (.t 4) (.t 47)⟩]) .ret)))
def vec_Cross.r:List Rr:=[.cell 4 (some 3)]
abbrev vec_Cross.n:Nat:=48
def mesh_Volume6.c (mesh_Check vec_Det:FuncId):C :=(.seq (.reg [⟨some 1,none,.box (.t 0)⟩,⟨some 2,none,.mv (.c (.i .i64 0))⟩]) (.seq (.seq (.reg [⟨some 6,none,.ld (some 2) (.t 1)⟩,⟨some 7,none,.call mesh_Check [.t 6]⟩,⟨some 8,none,.bin .neq (.t 7) (.c (.i .i64 0))⟩]) (.ite (.t 8) (.seq (.reg [⟨some 2,none,.mv (.c (.i .i64 0))⟩]) .ret) .skip)) (.seq (.reg [⟨some 3,none,.mv (.c (.i .i64 0))⟩]) (.seq (.seq (.reg [⟨some 9,none,.fa 1 (.t 1)⟩,⟨some 10,none,.ld none (.t 9)⟩,⟨some 11,none,.len 0 (.t 10)⟩,⟨some 12,none,.mv (.c (.i .i64 0))⟩]) (.blk 0 (.loop (.seq (.reg [⟨some 13,none,.bin .lss (.t 12) (.t 11)⟩])
 (.seq (.ite (.t 13) .skip (.exit 0)) (.seq (.blk 1 (.seq (.reg [⟨some 14,none,.ia 3 (.t 10) (.t 12)⟩,⟨some 15,none,.ld (some 3) (.t 14)⟩,⟨some 5,none,.alloc [(.i .i64 0),(.i .i64 0),(.i .i64 0)]⟩,⟨none,none,.st 3 (.t 5) (.t 15)⟩]) (.drw [⟨some 16,none,.mv (.t 3)⟩,⟨some 17,none,.fa 0 (.t 1)⟩,⟨some 18,none,.ld none (.t 17)⟩,⟨some 19,none,.fa 0 (.t 5)⟩,⟨some 20,none,.ld none (.t 19)⟩,⟨some 21,none,.ia 3 (.t 18) (.t 20)⟩,⟨some 22,none,.ld (some 3) (.t 21)⟩,⟨some 23,none,.fa 0 (.t 1)⟩,⟨some 24,none,.ld none (.t 23)⟩,⟨some 25,none,.fa 1 (.t 5)⟩,⟨some 26,none,.ld none (.t 25)⟩,⟨some 27,none,.ia 3 (.t 24) (.t 26)⟩,
 ⟨some 28,none,.ld (some 3) (.t 27)⟩,⟨some 29,none,.fa 0 (.t 1)⟩,⟨some 30,none,.ld none (.t 29)⟩,⟨some 31,none,.fa 2 (.t 5)⟩,⟨some 32,none,.ld none (.t 31)⟩,⟨some 33,none,.ia 3 (.t 30) (.t 32)⟩,⟨some 34,none,.ld (some 3) (.t 33)⟩,⟨some 35,none,.call vec_Det [.t 22,.t 28,.t 34]⟩,⟨some 36,none,.bin .add (.t 16) (.t 35)⟩,⟨some 3,none,.mv (.t 36)⟩] []))) (.reg [⟨some 37,none,.bin .add (.t 12) (.c (.i .i64 1))⟩,⟨some 12,none,.mv (.t 37)⟩]))))))) (.seq (.reg [⟨some 38,none,.mv (.t 3)⟩,⟨some 2,none,.mv (.t 38)⟩]) .ret)))))
def mesh_Volume6.r:List Rr:=[.tmp 2]
abbrev mesh_Volume6.n:Nat:=39
end Go.Abs
set_option linter.unusedVariables false
set_option linter.unusedSimpArgs false
namespace Go.Abs
def AwakeC (P:Program) (f:FuncId):Prop:=CallIs P f [] (.b true)
theorem par_0 {us:List V} (h:okPars [] us):us = []:=h
end Go.Abs
set_option linter.unusedVariables false
set_option linter.unusedSimpArgs false
namespace Go.Abs
def CloneC (P:Program) (f:FuncId) (sz:Nat):Prop:=∀ els:List (List V),els.all (fun el=>el.all V.isD) = true→els.length ≤ 1000000→NewC P f [.l sz els] (fun r h=>r = .own 0 1 0 els.length∧h = [.arr 1 sz els])
theorem isD_cl {x:V} (n:Nat) (h:x.isD = true):x.cl n = true:=by cases x <;> simp [V.isD] at h <;> simp [V.cl,V.cl1,V.cl0]
section
variable {P:Program} (hm:P.follows .mixedOrders = true)
include hm
theorem slices_Clone3_ok {f:FuncId} (hf:FnOk P f slices_Clone_api_Vec_api_Vec.c slices_Clone_api_Vec_api_Vec.r slices_Clone_api_Vec_api_Vec.n):CloneC P f 3:=by
 intro els hel hlen
 refine ACall_ghost 3 ?_
 refine new_of hm hf (Nat.le_of_ble_eq_true rfl) ?_
 unfold slices_Clone_api_Vec_api_Vec.c
 cases els with
 | nil=>simp [go_sem,slices_Clone_api_Vec_api_Vec.r]
 | cons e l =>
   simp only [List.length_cons] at hlen
   simp [go_sem,slices_Clone_api_Vec_api_Vec.r]
   simp only [List.all_cons,Bool.and_eq_true,List.all_eq_true] at hel
   exact⟨⟨by omega,by omega⟩,fun x hx=>isD_cl 1 (hel.1 x hx),fun a ha x hx=>isD_cl 1 (hel.2 a ha x hx)⟩
theorem slices_CloneT_ok {f:FuncId} (hf:FnOk P f slices_Clone_api_Tri_api_Tri.c slices_Clone_api_Tri_api_Tri.r slices_Clone_api_Tri_api_Tri.n):CloneC P f 3:=slices_Clone3_ok hm hf
end
end Go.Abs
