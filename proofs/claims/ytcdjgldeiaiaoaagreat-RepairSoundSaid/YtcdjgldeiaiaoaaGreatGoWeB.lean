/- Part of the library on which the proof stands: an abstract machine, its values and its soundness against the model; or what functions of the program do to such values. -/
import Derived.Test.YtcdjgldeiaiaoaaGreatGoWeA
import Derived.Test.YtcdjgldeiaiaoaaGreatGoToB
import Derived.Test.YtcdjgldeiaiaoaaGreatGoTo
set_option linter.unusedVariables false
set_option linter.unusedSimpArgs false
namespace Go.Abs
def weld_Weld.c (mesh_Check weld_used:FuncId):C :=(.seq (.reg [⟨some 1,none,.box (.t 0)⟩,⟨some 2,none,.alloc [.nil,.nil]⟩,⟨some 3,none,.mv (.c (.i .i64 0))⟩,⟨some 4,none,.mv (.c (.i .i64 0))⟩]) (.seq (.seq (.reg [⟨some 12,none,.ld (some 2) (.t 1)⟩,⟨some 13,none,.call mesh_Check [.t 12]⟩,⟨some 5,none,.mv (.t 13)⟩]) (.seq (.reg [⟨some 14,none,.mv (.t 5)⟩,⟨some 15,none,.bin .neq (.t 14) (.c (.i .i64 0))⟩]) (.ite (.t 15) (.seq (.reg [⟨some 16,none,.build [.nil,.nil] []⟩,⟨some 17,none,.mv (.t 5)⟩,⟨none,none,.st 2 (.t 2) (.t 16)⟩,⟨some 3,none,.mv (.c (.i .i64 0))⟩,⟨some 4,none,.mv (.t 17)⟩]) .ret) .skip)))
 (.seq (.reg [⟨some 18,none,.ld (some 2) (.t 1)⟩,⟨some 19,none,.call weld_used [.t 18]⟩,⟨some 20,none,.build [.nil,.nil] [(0,1,(.t 19))]⟩,⟨some 6,none,.alloc [.nil,.nil]⟩,⟨none,none,.st 2 (.t 6) (.t 20)⟩]) (.seq (.reg [⟨some 21,none,.fa 0 (.t 6)⟩,⟨some 22,none,.ld none (.t 21)⟩,⟨some 23,none,.len 0 (.t 22)⟩,⟨some 24,none,.mkm (some (.t 23))⟩,⟨some 7,none,.mv (.t 24)⟩]) (.seq (.seq (.reg [⟨some 25,none,.fa 0 (.t 6)⟩,⟨some 26,none,.ld none (.t 25)⟩,⟨some 27,none,.len 0 (.t 26)⟩,⟨some 28,none,.mv (.c (.i .i64 0))⟩]) (.blk 0 (.loop (.seq (.reg [⟨some 29,none,.bin .lss (.t 28) (.t 27)⟩]) (.seq (.ite (.t 29)
 .skip (.exit 0)) (.seq (.blk 1 (.seq (.reg [⟨some 30,none,.mv (.t 28)⟩,⟨some 31,none,.ia 3 (.t 26) (.t 28)⟩,⟨some 32,none,.ld (some 3) (.t 31)⟩,⟨some 9,none,.alloc [(.i .i64 0),(.i .i64 0),(.i .i64 0)]⟩,⟨some 8,none,.mv (.t 30)⟩,⟨none,none,.st 3 (.t 9) (.t 32)⟩]) (.reg [⟨some 33,none,.mv (.t 7)⟩,⟨some 34,none,.ld (some 3) (.t 9)⟩,⟨some 35,none,.mv (.t 8)⟩,⟨none,none,.mup [1,1,1] (.t 33) (.t 34) (.t 35)⟩]))) (.reg [⟨some 36,none,.bin .add (.t 28) (.c (.i .i64 1))⟩,⟨some 28,none,.mv (.t 36)⟩]))))))) (.seq (.seq (.reg [⟨some 37,none,.fa 1 (.t 1)⟩,⟨some 38,none,.ld none (.t 37)⟩,⟨some 39,none,.len 0 (.t 38)⟩,
 ⟨some 40,none,.mv (.c (.i .i64 0))⟩]) (.blk 2 (.loop (.seq (.reg [⟨some 41,none,.bin .lss (.t 40) (.t 39)⟩]) (.seq (.ite (.t 41) .skip (.exit 2)) (.seq (.blk 3 (.seq (.reg [⟨some 42,none,.ia 3 (.t 38) (.t 40)⟩,⟨some 43,none,.ld (some 3) (.t 42)⟩,⟨some 11,none,.alloc [(.i .i64 0),(.i .i64 0),(.i .i64 0)]⟩,⟨none,none,.st 3 (.t 11) (.t 43)⟩]) (.drw [⟨some 44,none,.fa 1 (.t 6)⟩,⟨some 45,none,.ld none (.t 44)⟩,⟨some 46,none,.mv (.t 7)⟩,⟨some 47,none,.fa 0 (.t 1)⟩,⟨some 48,none,.ld none (.t 47)⟩,⟨some 49,none,.fa 0 (.t 11)⟩,⟨some 50,none,.ld none (.t 49)⟩,⟨some 51,none,.ia 3 (.t 48) (.t 50)⟩,⟨some 52,none,.ld (some 3) (.t 51)⟩,
 ⟨some 53,none,.lk [1,1,1] (.i .i64 0) false (.t 46) (.t 52)⟩,⟨some 54,none,.mv (.t 7)⟩,⟨some 55,none,.fa 0 (.t 1)⟩,⟨some 56,none,.ld none (.t 55)⟩,⟨some 57,none,.fa 1 (.t 11)⟩,⟨some 58,none,.ld none (.t 57)⟩,⟨some 59,none,.ia 3 (.t 56) (.t 58)⟩,⟨some 60,none,.ld (some 3) (.t 59)⟩,⟨some 61,none,.lk [1,1,1] (.i .i64 0) false (.t 54) (.t 60)⟩,⟨some 62,none,.mv (.t 7)⟩,⟨some 63,none,.fa 0 (.t 1)⟩,⟨some 64,none,.ld none (.t 63)⟩,⟨some 65,none,.fa 2 (.t 11)⟩,⟨some 66,none,.ld none (.t 65)⟩,⟨some 67,none,.ia 3 (.t 64) (.t 66)⟩,⟨some 68,none,.ld (some 3) (.t 67)⟩,⟨some 69,none,.lk [1,1,1] (.i .i64 0) false (.t 62) (.t 68)⟩,
 ⟨some 70,none,.build [(.i .i64 0),(.i .i64 0),(.i .i64 0)] [(0,1,(.t 53)),(1,1,(.t 61)),(2,1,(.t 69))]⟩,⟨some 71,none,.bsi 3 1 [(.i .i64 0),(.i .i64 0),(.i .i64 0)] [(0,(.t 70))]⟩,⟨some 72,none,.app 3 24 (.t 45) (.t 71)⟩,⟨some 73,none,.fa 1 (.t 6)⟩,⟨none,none,.st 1 (.t 73) (.t 72)⟩] []))) (.reg [⟨some 74,none,.bin .add (.t 40) (.c (.i .i64 1))⟩,⟨some 40,none,.mv (.t 74)⟩]))))))) (.seq (.drw [⟨some 75,none,.ld (some 2) (.t 6)⟩,⟨some 76,none,.fa 0 (.t 1)⟩,⟨some 77,none,.ld none (.t 76)⟩,⟨some 78,none,.len 0 (.t 77)⟩,⟨some 79,none,.fa 0 (.t 6)⟩,⟨some 80,none,.ld none (.t 79)⟩,⟨some 81,none,.len 0 (.t 80)⟩,
 ⟨some 82,none,.bin .sub (.t 78) (.t 81)⟩,⟨none,none,.st 2 (.t 2) (.t 75)⟩,⟨some 3,none,.mv (.t 82)⟩,⟨some 4,none,.mv (.c (.i .i64 0))⟩] [[],[],[],[],[],[],[],[],[1,2,3,4,5,6],[],[]]) .ret)))))))
def weld_Weld.r:List Rr:=[.cell 2 (some 2),.tmp 3,.tmp 4]
abbrev weld_Weld.n:Nat:=83
def weld_Clean.c (mesh_Check slices_Clone_api_Vec_api_Vec weld_turned vec_Collinear:FuncId):C :=(.seq (.reg [⟨some 1,none,.box (.t 0)⟩,⟨some 2,none,.alloc [.nil,.nil]⟩,⟨some 3,none,.mv (.c (.i .i64 0))⟩,⟨some 4,none,.mv (.c (.i .i64 0))⟩,⟨some 5,none,.mv (.c (.i .i64 0))⟩]) (.seq (.seq (.reg [⟨some 14,none,.ld (some 2) (.t 1)⟩,⟨some 15,none,.call mesh_Check [.t 14]⟩,⟨some 6,none,.mv (.t 15)⟩]) (.seq (.reg [⟨some 16,none,.mv (.t 6)⟩,⟨some 17,none,.bin .neq (.t 16) (.c (.i .i64 0))⟩]) (.ite (.t 17) (.seq (.reg [⟨some 18,none,.build [.nil,.nil] []⟩,⟨some 19,none,.mv (.t 6)⟩,⟨none,none,.st 2 (.t 2) (.t 18)⟩,
 ⟨some 3,none,.mv (.c (.i .i64 0))⟩,⟨some 4,none,.mv (.c (.i .i64 0))⟩,⟨some 5,none,.mv (.t 19)⟩]) .ret) .skip))) (.seq (.reg [⟨some 20,none,.fa 0 (.t 1)⟩,⟨some 21,none,.ld none (.t 20)⟩,⟨some 22,none,.call slices_Clone_api_Vec_api_Vec [.t 21]⟩,⟨some 23,none,.build [.nil,.nil] [(0,1,(.t 22))]⟩,⟨some 7,none,.alloc [.nil,.nil]⟩,⟨none,none,.st 2 (.t 7) (.t 23)⟩]) (.seq (.reg [⟨some 24,none,.mkm none⟩,⟨some 8,none,.mv (.t 24)⟩]) (.seq (.reg [⟨some 9,none,.mv (.c (.i .i64 0))⟩,⟨some 10,none,.mv (.c (.i .i64 0))⟩]) (.seq (.seq (.reg [⟨some 25,none,.fa 1 (.t 1)⟩,⟨some 26,none,.ld none (.t 25)⟩,⟨some 27,none,.len 0 (.t 26)⟩,
 ⟨some 28,none,.mv (.c (.i .i64 0))⟩]) (.blk 0 (.loop (.seq (.reg [⟨some 29,none,.bin .lss (.t 28) (.t 27)⟩]) (.seq (.ite (.t 29) .skip (.exit 0)) (.seq (.blk 1 (.seq (.reg [⟨some 30,none,.ia 3 (.t 26) (.t 28)⟩,⟨some 31,none,.ld (some 3) (.t 30)⟩,⟨some 12,none,.alloc [(.i .i64 0),(.i .i64 0),(.i .i64 0)]⟩,⟨none,none,.st 3 (.t 12) (.t 31)⟩]) (.seq (.reg [⟨some 32,none,.ld (some 3) (.t 12)⟩,⟨some 33,none,.call weld_turned [.t 32]⟩,⟨some 13,none,.alloc [(.i .i64 0),(.i .i64 0),(.i .i64 0)]⟩,⟨none,none,.st 3 (.t 13) (.t 33)⟩]) (.blk 2 (.seq (.drw [⟨some 43,none,.fa 0 (.t 1)⟩,⟨some 44,none,.ld none (.t 43)⟩,
 ⟨some 45,none,.fa 0 (.t 12)⟩,⟨some 46,none,.ld none (.t 45)⟩,⟨some 47,none,.ia 3 (.t 44) (.t 46)⟩,⟨some 48,none,.ld (some 3) (.t 47)⟩,⟨some 49,none,.fa 0 (.t 1)⟩,⟨some 50,none,.ld none (.t 49)⟩,⟨some 51,none,.fa 1 (.t 12)⟩,⟨some 52,none,.ld none (.t 51)⟩,⟨some 53,none,.ia 3 (.t 50) (.t 52)⟩,⟨some 54,none,.ld (some 3) (.t 53)⟩,⟨some 55,none,.fa 0 (.t 1)⟩,⟨some 56,none,.ld none (.t 55)⟩,⟨some 57,none,.fa 2 (.t 12)⟩,⟨some 58,none,.ld none (.t 57)⟩,⟨some 59,none,.ia 3 (.t 56) (.t 58)⟩,⟨some 60,none,.ld (some 3) (.t 59)⟩,⟨some 61,none,.call vec_Collinear [.t 48,.t 54,.t 60]⟩,⟨some 42,none,.mv (.t 61)⟩] [])
 (.ite (.t 42) (.reg [⟨some 62,none,.mv (.t 9)⟩,⟨some 63,none,.bin .add (.t 62) (.c (.i .i64 1))⟩,⟨some 9,none,.mv (.t 63)⟩]) (.seq (.reg [⟨some 65,none,.mv (.t 8)⟩,⟨some 66,none,.ld (some 3) (.t 13)⟩,⟨some 67,none,.lk [1,1,1] (.b false) false (.t 65) (.t 66)⟩,⟨some 64,none,.mv (.t 67)⟩]) (.ite (.t 64) (.reg [⟨some 68,none,.mv (.t 10)⟩,⟨some 69,none,.bin .add (.t 68) (.c (.i .i64 1))⟩,⟨some 10,none,.mv (.t 69)⟩]) (.seq (.reg [⟨some 34,none,.mv (.t 8)⟩,⟨some 35,none,.ld (some 3) (.t 13)⟩,⟨none,none,.mup [1,1,1] (.t 34) (.t 35) (.c (.b true))⟩]) (.reg [⟨some 36,none,.fa 1 (.t 7)⟩,⟨some 37,none,.ld none (.t 36)⟩,
 ⟨some 38,none,.ld (some 3) (.t 12)⟩,⟨some 39,none,.bsi 3 1 [(.i .i64 0),(.i .i64 0),(.i .i64 0)] [(0,(.t 38))]⟩,⟨some 40,none,.app 3 24 (.t 37) (.t 39)⟩,⟨some 41,none,.fa 1 (.t 7)⟩,⟨none,none,.st 1 (.t 41) (.t 40)⟩])))))))))) (.reg [⟨some 70,none,.bin .add (.t 28) (.c (.i .i64 1))⟩,⟨some 28,none,.mv (.t 70)⟩]))))))) (.seq (.reg [⟨some 71,none,.ld (some 2) (.t 7)⟩,⟨some 72,none,.mv (.t 9)⟩,⟨some 73,none,.mv (.t 10)⟩,⟨none,none,.st 2 (.t 2) (.t 71)⟩,⟨some 3,none,.mv (.t 72)⟩,⟨some 4,none,.mv (.t 73)⟩,⟨some 5,none,.mv (.c (.i .i64 0))⟩]) .ret)))))))
def weld_Clean.r:List Rr:=[.cell 2 (some 2),.tmp 3,.tmp 4,.tmp 5]
abbrev weld_Clean.n:Nat:=74
def weld_Degenerate.c (mesh_Corners vec_Collinear:FuncId):C :=(.seq (.reg [⟨some 2,none,.box (.t 0)⟩,⟨some 4,none,.mv (.c (.b false))⟩]) (.seq (.reg [⟨some 10,none,.ld (some 2) (.t 2)⟩,⟨some 11,none,.mv (.t 1)⟩,⟨some 12,none,.call mesh_Corners [.t 10,.t 11]⟩,⟨some 9,none,.mv (.t 12)⟩,⟨some 13,none,.ext (.t 9) 0⟩,⟨some 14,none,.ext (.t 9) 1⟩,⟨some 15,none,.ext (.t 9) 2⟩,⟨some 16,none,.ext (.t 9) 3⟩,⟨some 5,none,.alloc [(.i .i64 0),(.i .i64 0),(.i .i64 0)]⟩,⟨some 6,none,.alloc [(.i .i64 0),(.i .i64 0),(.i .i64 0)]⟩,⟨some 7,none,.alloc [(.i .i64 0),(.i .i64 0),(.i .i64 0)]⟩,⟨none,none,.st 3 (.t 5) (.t 13)⟩,
 ⟨none,none,.st 3 (.t 6) (.t 14)⟩,⟨none,none,.st 3 (.t 7) (.t 15)⟩,⟨some 8,none,.mv (.t 16)⟩]) (.seq (.reg [⟨some 17,none,.mv (.t 8)⟩,⟨some 18,none,.mv (.t 17)⟩,⟨some 19,(some (18,true)),.ld (some 3) (.t 5)⟩,⟨some 20,(some (18,true)),.ld (some 3) (.t 6)⟩,⟨some 21,(some (18,true)),.ld (some 3) (.t 7)⟩,⟨some 22,(some (18,true)),.call vec_Collinear [.t 19,.t 20,.t 21]⟩,⟨some 23,none,.pick (.t 18) (.t 22) (.c (.b false))⟩,⟨some 4,none,.mv (.t 23)⟩]) .ret)))
def weld_Degenerate.r:List Rr:=[.tmp 4]
abbrev weld_Degenerate.n:Nat:=24
def weld_used.c (slices_SortFunc_api_Vec_api_Vec weld_used_1:FuncId):C :=(.seq (.reg [⟨some 1,none,.box (.t 0)⟩,⟨some 2,none,.mv (.c .nil)⟩]) (.seq (.reg [⟨some 10,none,.mkm none⟩,⟨some 3,none,.mv (.t 10)⟩]) (.seq (.reg [⟨some 4,none,.mv (.c .nil)⟩]) (.seq (.seq (.reg [⟨some 11,none,.fa 1 (.t 1)⟩,⟨some 12,none,.ld none (.t 11)⟩,⟨some 13,none,.len 0 (.t 12)⟩,⟨some 14,none,.mv (.c (.i .i64 0))⟩]) (.blk 0 (.loop (.seq (.reg [⟨some 15,none,.bin .lss (.t 14) (.t 13)⟩]) (.seq (.ite (.t 15) .skip (.exit 0)) (.seq (.blk 1 (.seq (.reg [⟨some 16,none,.ia 3 (.t 12) (.t 14)⟩,⟨some 17,none,.ld (some 3) (.t 16)⟩,
 ⟨some 6,none,.alloc [(.i .i64 0),(.i .i64 0),(.i .i64 0)]⟩,⟨none,none,.st 3 (.t 6) (.t 17)⟩]) (.seq (.reg [⟨some 18,none,.fa 0 (.t 6)⟩,⟨some 19,none,.ld none (.t 18)⟩,⟨some 20,none,.fa 1 (.t 6)⟩,⟨some 21,none,.ld none (.t 20)⟩,⟨some 22,none,.fa 2 (.t 6)⟩,⟨some 23,none,.ld none (.t 22)⟩,⟨some 24,none,.build [(.i .i64 0),(.i .i64 0),(.i .i64 0)] [(0,1,(.t 19)),(1,1,(.t 21)),(2,1,(.t 23))]⟩,⟨some 25,none,.mv (.c (.i .i64 0))⟩]) (.blk 2 (.loop (.seq (.reg [⟨some 26,none,.bin .lss (.t 25) (.c (.i .i64 3))⟩]) (.seq (.ite (.t 26) .skip (.exit 2)) (.seq (.blk 3 (.seq (.reg [⟨some 27,none,.ix 3 1 none (.t 24) (.t 25)⟩,
 ⟨some 8,none,.mv (.t 27)⟩]) (.seq (.reg [⟨some 28,none,.fa 0 (.t 1)⟩,⟨some 29,none,.ld none (.t 28)⟩,⟨some 30,none,.mv (.t 8)⟩,⟨some 31,none,.ia 3 (.t 29) (.t 30)⟩,⟨some 32,none,.ld (some 3) (.t 31)⟩,⟨some 9,none,.alloc [(.i .i64 0),(.i .i64 0),(.i .i64 0)]⟩,⟨none,none,.st 3 (.t 9) (.t 32)⟩]) (.seq (.reg [⟨some 33,none,.mv (.t 3)⟩,⟨some 34,none,.ld (some 3) (.t 9)⟩,⟨some 35,none,.lk [1,1,1] (.b false) false (.t 33) (.t 34)⟩,⟨some 36,none,.un .not (.t 35)⟩]) (.ite (.t 36) (.seq (.reg [⟨some 37,none,.mv (.t 3)⟩,⟨some 38,none,.ld (some 3) (.t 9)⟩,⟨none,none,.mup [1,1,1] (.t 37) (.t 38) (.c (.b true))⟩])
 (.reg [⟨some 39,none,.mv (.t 4)⟩,⟨some 40,none,.ld (some 3) (.t 9)⟩,⟨some 41,none,.bsi 3 1 [(.i .i64 0),(.i .i64 0),(.i .i64 0)] [(0,(.t 40))]⟩,⟨some 42,none,.app 3 24 (.t 39) (.t 41)⟩,⟨some 4,none,.mv (.t 42)⟩])) .skip))))) (.reg [⟨some 43,none,.bin .add (.t 25) (.c (.i .i64 1))⟩,⟨some 25,none,.mv (.t 43)⟩]))))))))) (.reg [⟨some 44,none,.bin .add (.t 14) (.c (.i .i64 1))⟩,⟨some 14,none,.mv (.t 44)⟩]))))))) (.seq (.reg [⟨some 45,none,.mv (.t 4)⟩,⟨some 46,none,.call slices_SortFunc_api_Vec_api_Vec [.t 45,(.c (.f weld_used_1 []))]⟩]) (.seq (.reg [⟨some 47,none,.mv (.t 4)⟩,⟨some 2,none,.mv (.t 47)⟩])
 .ret))))))
def weld_used.r:List Rr:=[.tmp 2]
abbrev weld_used.n:Nat:=48
def weld_turned.c (weld_before:FuncId):C :=(.seq (.reg [⟨some 1,none,.box (.t 0)⟩,⟨some 2,none,.alloc [(.i .i64 0),(.i .i64 0),(.i .i64 0)]⟩]) (.seq (.reg [⟨some 4,none,.ld (some 3) (.t 1)⟩,⟨some 3,none,.alloc [(.i .i64 0),(.i .i64 0),(.i .i64 0)]⟩,⟨none,none,.st 3 (.t 3) (.t 4)⟩]) (.seq (.seq (.reg [⟨some 5,none,.mv (.c (.i .i64 0))⟩]) (.blk 0 (.loop (.seq (.reg [⟨some 6,none,.bin .lss (.t 5) (.c (.i .i64 2))⟩]) (.seq (.ite (.t 6) .skip (.exit 0)) (.seq (.blk 1 (.seq (.reg [⟨some 7,none,.fa 1 (.t 1)⟩,⟨some 8,none,.ld none (.t 7)⟩,⟨some 9,none,.fa 2 (.t 1)⟩,⟨some 10,none,.ld none (.t 9)⟩,⟨some 11,none,.fa 0 (.t 1)⟩,
 ⟨some 12,none,.ld none (.t 11)⟩,⟨some 13,none,.build [(.i .i64 0),(.i .i64 0),(.i .i64 0)] [(0,1,(.t 8)),(1,1,(.t 10)),(2,1,(.t 12))]⟩,⟨none,none,.st 3 (.t 1) (.t 13)⟩]) (.seq (.reg [⟨some 14,none,.ld (some 3) (.t 1)⟩,⟨some 15,none,.ld (some 3) (.t 3)⟩,⟨some 16,none,.call weld_before [.t 14,.t 15]⟩]) (.ite (.t 16) (.reg [⟨some 17,none,.ld (some 3) (.t 1)⟩,⟨none,none,.st 3 (.t 3) (.t 17)⟩]) .skip)))) (.reg [⟨some 18,none,.bin .add (.t 5) (.c (.i .i64 1))⟩,⟨some 5,none,.mv (.t 18)⟩]))))))) (.seq (.reg [⟨some 19,none,.ld (some 3) (.t 3)⟩,⟨none,none,.st 3 (.t 2) (.t 19)⟩]) .ret))))
def weld_turned.r:List Rr:=[.cell 2 (some 3)]
abbrev weld_turned.n:Nat:=20
def vec_Collinear.c (vec_Valid vec_Sub vec_Cross:FuncId):C :=(.seq (.reg [⟨some 3,none,.box (.t 0)⟩,⟨some 4,none,.box (.t 1)⟩,⟨some 5,none,.box (.t 2)⟩,⟨some 6,none,.mv (.c (.b false))⟩]) (.seq (.drw [⟨some 7,none,.ld (some 3) (.t 3)⟩,⟨some 8,none,.call vec_Valid [.t 7]⟩,⟨some 9,none,.mv (.t 8)⟩,⟨some 10,(some (9,true)),.ld (some 3) (.t 4)⟩,⟨some 11,(some (9,true)),.call vec_Valid [.t 10]⟩,⟨some 12,none,.pick (.t 9) (.t 11) (.c (.b false))⟩,⟨some 13,none,.mv (.t 12)⟩,⟨some 14,(some (13,true)),.ld (some 3) (.t 5)⟩,⟨some 15,(some (13,true)),.call vec_Valid [.t 14]⟩,⟨some 16,none,.pick (.t 13) (.t 15) (.c (.b false))⟩,
 ⟨some 17,none,.mv (.t 16)⟩,⟨some 18,(some (17,true)),.ld (some 3) (.t 4)⟩,⟨some 19,(some (17,true)),.ld (some 3) (.t 3)⟩,⟨some 20,(some (17,true)),.call vec_Sub [.t 18,.t 19]⟩,⟨some 21,(some (17,true)),.ld (some 3) (.t 5)⟩,⟨some 22,(some (17,true)),.ld (some 3) (.t 3)⟩,⟨some 23,(some (17,true)),.call vec_Sub [.t 21,.t 22]⟩,⟨some 24,(some (17,true)),.call vec_Cross [.t 20,.t 23]⟩,⟨some 25,(some (17,true)),.build [(.i .i64 0),(.i .i64 0),(.i .i64 0)] []⟩,⟨some 26,(some (17,true)),.eqa [1,1,1] false (.t 24) (.t 25)⟩,⟨some 27,none,.pick (.t 17) (.t 26) (.c (.b false))⟩,⟨some 6,none,.mv (.t 27)⟩] [[],[],[],[],[],[],[],[],[],[],[],[],[],[],[13],[13],[],[],[],[],[],[]])
 .ret))
def vec_Collinear.r:List Rr:=[.tmp 6]
abbrev vec_Collinear.n:Nat:=28
def weld_used_1.c (vec_Less:FuncId):C :=(.seq (.reg [⟨some 2,none,.box (.t 0)⟩,⟨some 3,none,.box (.t 1)⟩,⟨some 4,none,.mv (.c (.i .i64 0))⟩]) (.seq (.blk 0 (.seq (.reg [⟨some 6,none,.ld (some 3) (.t 2)⟩,⟨some 7,none,.ld (some 3) (.t 3)⟩,⟨some 8,none,.call vec_Less [.t 6,.t 7]⟩,⟨some 5,none,.mv (.t 8)⟩]) (.ite (.t 5) (.seq (.reg [⟨some 4,none,.mv (.c (.i .i64 (-1)))⟩]) .ret) (.seq (.reg [⟨some 10,none,.ld (some 3) (.t 3)⟩,⟨some 11,none,.ld (some 3) (.t 2)⟩,⟨some 12,none,.call vec_Less [.t 10,.t 11]⟩,⟨some 9,none,.mv (.t 12)⟩]) (.ite (.t 9) (.seq (.reg [⟨some 4,none,.mv (.c (.i .i64 1))⟩]) .ret)
 .skip))))) (.seq (.reg [⟨some 4,none,.mv (.c (.i .i64 0))⟩]) .ret)))
def weld_used_1.r:List Rr:=[.tmp 4]
abbrev weld_used_1.n:Nat:=13
def vec_Less.c:C :=(.seq (.reg [⟨some 2,none,.box (.t 0)⟩,⟨some 3,none,.box (.t 1)⟩,⟨some 4,none,.mv (.c (.b false))⟩]) (.seq (.seq (.reg [⟨some 5,none,.fa 0 (.t 2)⟩,⟨some 6,none,.ld none (.t 5)⟩,⟨some 7,none,.fa 0 (.t 3)⟩,⟨some 8,none,.ld none (.t 7)⟩,⟨some 9,none,.bin .neq (.t 6) (.t 8)⟩]) (.ite (.t 9) (.seq (.reg [⟨some 10,none,.fa 0 (.t 2)⟩,⟨some 11,none,.ld none (.t 10)⟩,⟨some 12,none,.fa 0 (.t 3)⟩,⟨some 13,none,.ld none (.t 12)⟩,⟨some 14,none,.bin .lss (.t 11) (.t 13)⟩,⟨some 4,none,.mv (.t 14)⟩]) .ret) .skip)) (.seq (.seq (.reg [⟨some 15,none,.fa 1 (.t 2)⟩,⟨some 16,none,.ld none (.t 15)⟩,
 ⟨some 17,none,.fa 1 (.t 3)⟩,⟨some 18,none,.ld none (.t 17)⟩,⟨some 19,none,.bin .neq (.t 16) (.t 18)⟩]) (.ite (.t 19) (.seq (.reg [⟨some 20,none,.fa 1 (.t 2)⟩,⟨some 21,none,.ld none (.t 20)⟩,⟨some 22,none,.fa 1 (.t 3)⟩,⟨some 23,none,.ld none (.t 22)⟩,⟨some 24,none,.bin .lss (.t 21) (.t 23)⟩,⟨some 4,none,.mv (.t 24)⟩]) .ret) .skip)) (.seq (.reg [⟨some 25,none,.fa 2 (.t 2)⟩,⟨some 26,none,.ld none (.t 25)⟩,⟨some 27,none,.fa 2 (.t 3)⟩,⟨some 28,none,.ld none (.t 27)⟩,⟨some 29,none,.bin .lss (.t 26) (.t 28)⟩,⟨some 4,none,.mv (.t 29)⟩]) .ret))))
def vec_Less.r:List Rr:=[.tmp 4]
abbrev vec_Less.n:Nat:=30
def weld_before.c:C :=(.seq (.reg [⟨some 2,none,.box (.t 0)⟩,⟨some 3,none,.box (.t 1)⟩,⟨some 4,none,.mv (.c (.b false))⟩]) (.seq (.seq (.reg [⟨some 5,none,.fa 0 (.t 2)⟩,⟨some 6,none,.ld none (.t 5)⟩,⟨some 7,none,.fa 0 (.t 3)⟩,⟨some 8,none,.ld none (.t 7)⟩,⟨some 9,none,.bin .neq (.t 6) (.t 8)⟩]) (.ite (.t 9) (.seq (.reg [⟨some 10,none,.fa 0 (.t 2)⟩,⟨some 11,none,.ld none (.t 10)⟩,⟨some 12,none,.fa 0 (.t 3)⟩,⟨some 13,none,.ld none (.t 12)⟩,⟨some 14,none,.bin .lss (.t 11) (.t 13)⟩,⟨some 4,none,.mv (.t 14)⟩]) .ret) .skip)) (.seq (.seq (.reg [⟨some 15,none,.fa 1 (.t 2)⟩,⟨some 16,none,.ld none (.t 15)⟩,
 ⟨some 17,none,.fa 1 (.t 3)⟩,⟨some 18,none,.ld none (.t 17)⟩,⟨some 19,none,.bin .neq (.t 16) (.t 18)⟩]) (.ite (.t 19) (.seq (.reg [⟨some 20,none,.fa 1 (.t 2)⟩,⟨some 21,none,.ld none (.t 20)⟩,⟨some 22,none,.fa 1 (.t 3)⟩,⟨some 23,none,.ld none (.t 22)⟩,⟨some 24,none,.bin .lss (.t 21) (.t 23)⟩,⟨some 4,none,.mv (.t 24)⟩]) .ret) .skip)) (.seq (.reg [⟨some 25,none,.fa 2 (.t 2)⟩,⟨some 26,none,.ld none (.t 25)⟩,⟨some 27,none,.fa 2 (.t 3)⟩,⟨some 28,none,.ld none (.t 27)⟩,⟨some 29,none,.bin .lss (.t 26) (.t 28)⟩,⟨some 4,none,.mv (.t 29)⟩]) .ret))))
def weld_before.r:List Rr:=[.tmp 4]
abbrev weld_before.n:Nat:=30
def vec_Sub.c (vec_Valid:FuncId):C :=(.seq (.reg [⟨some 2,none,.box (.t 0)⟩,⟨some 3,none,.box (.t 1)⟩,⟨some 4,none,.alloc [(.i .i64 0),(.i .i64 0),(.i .i64 0)]⟩]) (.seq (.seq (.reg [⟨some 5,none,.ld (some 3) (.t 2)⟩,⟨some 6,none,.call vec_Valid [.t 5]⟩,⟨some 7,none,.un .not (.t 6)⟩,⟨some 8,none,.mv (.t 7)⟩,⟨some 9,(some (8,false)),.ld (some 3) (.t 3)⟩,⟨some 10,(some (8,false)),.call vec_Valid [.t 9]⟩,⟨some 11,(some (8,false)),.un .not (.t 10)⟩,⟨some 12,none,.pick (.t 8) (.c (.b true)) (.t 11)⟩]) (.ite (.t 12) (.seq (.reg [⟨some 13,none,.build [(.i .i64 0),(.i .i64 0),(.i .i64 0)] []⟩,⟨none,none,.st 3 (.t 4) (.t 13)⟩])
 .ret) .skip)) (.seq (.reg [⟨some 14,none,.fa 0 (.t 2)⟩,⟨some 15,none,.ld none (.t 14)⟩,⟨some 16,none,.fa 0 (.t 3)⟩,⟨some 17,none,.ld none (.t 16)⟩,⟨some 18,none,.bin .sub (.t 15) (.t 17)⟩,⟨some 19,none,.fa 1 (.t 2)⟩,⟨some 20,none,.ld none (.t 19)⟩,⟨some 21,none,.fa 1 (.t 3)⟩,⟨some 22,none,.ld none (.t 21)⟩,⟨some 23,none,.bin .sub (.t 20) (.t 22)⟩,⟨some 24,none,.fa 2 (.t 2)⟩,⟨some 25,none,.ld none (.t 24)⟩,⟨some 26,none,.fa 2 (.t 3)⟩,⟨some 27,none,.ld none (.t 26)⟩,⟨some 28,none,.bin .sub (.t 25) (.t 27)⟩,⟨some 29,none,.build [(.i .i64 0),(.i .i64 0),(.i .i64 0)] [(0,1,(.t 18)),(1,1,(.t 23)),(2,1,(.t 28))]⟩,
 ⟨none,none,.st 3 (.t 4) (.t 29)⟩]) .ret)))
def vec_Sub.r:List Rr:=[.cell 4 (some 3)]
abbrev vec_Sub.n:Nat:=30
end Go.Abs
set_option linter.unusedVariables false
set_option linter.unusedSimpArgs false
namespace Go.Abs
open Go.Sort
instance:Inhabited V3:=⟨⟨0,0,0⟩⟩
def V3.ints (v:V3):List Int:=[v.x,v.y,v.z]
def LessC (P:Program) (f:FuncId):Prop:=∀ a b:V3,CallIs P f [a.enc,b.enc] (.b (decide (V3.lt a b)))
def cmpV (a b:V3):Int:=if V3.lt a b then -1 else if V3.lt b a then 1 else 0
def CmpVC (P:Program) (f:FuncId):Prop:=∀ a b:V3,CallIs P f [a.enc,b.enc] (.i .i64 (cmpV a b))
def BeforeC (P:Program) (f:FuncId):Prop:=∀ a b:T3,CallIs P f [a.enc,b.enc] (.b (decide (T3.lt a b)))
def TurnedC (P:Program) (f:FuncId):Prop:=∀ t:T3,CallIs P f [t.enc] t.turned.enc
def SubVC (P:Program) (f:FuncId):Prop:=∀ a b:V3,a.valid = true→b.valid = true→CallIs P f [a.enc,b.enc] (a.sub b).enc
def CrossWC (P:Program) (f:FuncId):Prop:=∀ a b:V3,a.within 131072 = true→b.within 131072 = true→CallIs P f [a.enc,b.enc] (a.crs b).enc
def SmallWC (P:Program) (f:FuncId):Prop:=∀ a:V3,CallIs P f [a.enc] (.b (a.within 131072))
def CollC (P:Program) (f:FuncId):Prop:=∀ a b c:V3,CallIs P f [a.enc,b.enc,c.enc] (.b (collin a b c))
theorem ltV (a b:V3):ltC cmpV a b = decide (V3.lt a b):=by
 unfold ltC cmpV
 by_cases h1:V3.lt a b
 ·simp [h1]
 ·by_cases h2:V3.lt b a <;> simp [h1,h2]
theorem swoV:SWO (ltC cmpV) where
 irrefl x:=by rw [ltV];simp [V3.ltO.irr]
 trans x y z h1 h2:=by
  rw [ltV,decide_eq_true_eq] at *
  exact V3.ltO.tr h1 h2
 ntrans x y z h1 h2:=by
  rw [ltV,decide_eq_false_iff_not] at *
  unfold V3.lt at *;omega
section
variable {P:Program} (hm:P.follows .mixedOrders = true)
include hm
theorem vec_Less_ok {f:FuncId} (hf:FnOk P f vec_Less.c vec_Less.r vec_Less.n):LessC P f:=by
 intro a b
 refine PureC.is (pure_of hm hf (Nat.le_of_ble_eq_true rfl) ?_) rfl
 unfold vec_Less.c
 by_cases h1:a.x = b.x
 ·by_cases h2:a.y = b.y
  ·simp [go_sem,V3.enc,vcs,h1,h2,vec_Less.r,V3.lt]
  ·simp [go_sem,V3.enc,vcs,h1,h2,vec_Less.r,V3.lt]
 ·simp [go_sem,V3.enc,vcs,h1,vec_Less.r,V3.lt]
theorem weld_before_ok {f:FuncId} (hf:FnOk P f weld_before.c weld_before.r weld_before.n):BeforeC P f:=by
 intro a b
 refine PureC.is (pure_of hm hf (Nat.le_of_ble_eq_true rfl) ?_) rfl
 unfold weld_before.c
 by_cases h1:a.a = b.a
 ·by_cases h2:a.b = b.b
  ·simp [go_sem,T3.enc,tcs,h1,h2,weld_before.r,T3.lt]
  ·simp [go_sem,T3.enc,tcs,h1,h2,weld_before.r,T3.lt]
 ·simp [go_sem,T3.enc,tcs,h1,weld_before.r,T3.lt]
theorem weld_used_1_ok {f fl:FuncId} (hf:FnOk P f (weld_used_1.c fl) weld_used_1.r weld_used_1.n) (hl:LessC P fl):CmpVC P f:=by
 intro a b
 refine PureC.is (pure_of hm hf (Nat.le_of_ble_eq_true rfl) ?_) rfl
 unfold weld_used_1.c
 simp [go_sem,V3.enc,vcs]
 refine ACall_is (hl a b) ?_
 by_cases h1:V3.lt a b
 ·simp [go_sem,h1,weld_used_1.r,cmpV]
 ·simp [go_sem,h1]
  refine ACall_is (hl b a) ?_
  by_cases h2:V3.lt b a <;> simp [go_sem,h1,h2,weld_used_1.r,cmpV]
theorem weld_turned_ok {f fb:FuncId} (hf:FnOk P f (weld_turned.c fb) weld_turned.r weld_turned.n) (hb:BeforeC P fb):TurnedC P f:=by
 intro t
 refine PureC.is (pure_of hm hf (Nat.le_of_ble_eq_true rfl) ?_) rfl
 unfold weld_turned.c
 have w1:IntKind.i64.wrap 1 = 1:=rfl
 have w2:IntKind.i64.wrap 2 = 2:=rfl
 simp [go_sem,T3.enc,tcs]
 refine AS_loop (α:=Nat) (fun k=>k ≤ 2)
  (fun k=>⟨[(1,.p 0 1 0 0),(2,.p 1 1 0 0),(3,.p 2 1 0 0),(5,.i .i64 k)],[.arr 1 3 [(if k = 0 then t else if k = 1 then t.rot else t.rot.rot).cs],.arr 1 3 [[.i .i64 0,.i .i64 0,.i .i64 0]],.arr 1 3 [(if k = 0 then t else if k = 1 then T3.least t t.rot else t.turned).cs]]⟩)
  (fun k=>2 - k) 0 (by omega) ?_ ?_
 ·simp [go_sem,tcs]
 ·intro k hk
  have:k = 0 ∨ k = 1 ∨ k = 2:=by omega
  rcases this with rfl | rfl | rfl
  ·simp [go_sem,tcs,w1]
   refine ACall_is (hb t.rot t) ?_
   by_cases h:T3.lt t.rot t
   ·have hl:T3.least t t.rot = t.rot:=by simp only [T3.least,h,if_true]
    simp [go_sem,h,w1]
    exact⟨1,by omega,by omega,rfl,by simp [T3.rot],by rw [hl];simp [T3.rot]⟩
   ·have hl:T3.least t t.rot = t:=by simp only [T3.least,h,if_false]
    simp [go_sem,h,w1]
    exact⟨1,by omega,by omega,rfl,by simp [T3.rot],by rw [hl];simp⟩
  ·simp [go_sem,tcs,w2]
   refine ACall_is (hb t.rot.rot (T3.least t t.rot)) ?_
   by_cases h:T3.lt t.rot.rot (T3.least t t.rot)
   ·have hl:t.turned = t.rot.rot:=by unfold T3.turned;rw [T3.least,if_pos h]
    simp [go_sem,h,w2]
    exact⟨2,by omega,by omega,rfl,by simp [T3.rot],by rw [hl];simp [T3.rot]⟩
   ·have hl:t.turned = T3.least t t.rot:=by unfold T3.turned;rw [T3.least,if_neg h]
    simp [go_sem,h,w2]
    exact⟨2,by omega,by omega,rfl,by simp [T3.rot],by rw [hl];simp⟩
  ·simp [go_sem,tcs,weld_turned.r]
theorem vec_Sub_ok {f fv:FuncId} (hf:FnOk P f (vec_Sub.c fv) vec_Sub.r vec_Sub.n) (hv:ValidC P fv):SubVC P f:=by
 intro a b h1 h2
 have g1:=V3.valid_iff.1 h1
 have g2:=V3.valid_iff.1 h2
 refine PureC.is (pure_of hm hf (Nat.le_of_ble_eq_true rfl) ?_) rfl
 unfold vec_Sub.c
 simp [go_sem,V3.enc,vcs]
 refine ACall_is (hv a) ?_
 simp [go_sem,h1]
 refine ACall_is (hv b) ?_
 simp (disch:=omega) [go_sem,h2,wrap64_small,vec_Sub.r,V3.sub]
theorem vec_smallW_ok {f fw:FuncId} (hf:FnOk P f (vec_small.c fw) vec_small.r vec_small.n) (hw:WithinC P fw):SmallWC P f:=by
 intro a
 refine PureC.is (pure_of hm hf (Nat.le_of_ble_eq_true rfl) ?_) rfl
 unfold vec_small.c
 simp [go_sem,V3.enc,vcs]
 refine ACall_is ((hw a 131072 (by omega) (by omega)).is rfl) ?_
 simp [go_sem,vec_small.r]
theorem vec_CrossW_ok {f fv:FuncId} (hf:FnOk P f (vec_Cross.c fv) vec_Cross.r vec_Cross.n) (hv:SmallWC P fv):CrossWC P f:=by
 intro a b h1 h2
 have g1:(-131072 ≤ a.x∧a.x ≤ 131072∧-131072 ≤ a.y∧a.y ≤ 131072∧-131072 ≤ a.z∧a.z ≤ 131072):=by simpa [V3.within,and_assoc] using h1
 have g2:(-131072 ≤ b.x∧b.x ≤ 131072∧-131072 ≤ b.y∧b.y ≤ 131072∧-131072 ≤ b.z∧b.z ≤ 131072):=by simpa [V3.within,and_assoc] using h2
 have m1:=mulb (x:=a.y) (y:=b.z) (A:=131072) (B:=131072) (by omega) (by omega) (by omega) (by omega)
 have m2:=mulb (x:=a.z) (y:=b.y) (A:=131072) (B:=131072) (by omega) (by omega) (by omega) (by omega)
 have m3:=mulb (x:=a.z) (y:=b.x) (A:=131072) (B:=131072) (by omega) (by omega) (by omega) (by omega)
 have m4:=mulb (x:=a.x) (y:=b.z) (A:=131072) (B:=131072) (by omega) (by omega) (by omega) (by omega)
 have m5:=mulb (x:=a.x) (y:=b.y) (A:=131072) (B:=131072) (by omega) (by omega) (by omega) (by omega)
 have m6:=mulb (x:=a.y) (y:=b.x) (A:=131072) (B:=131072) (by omega) (by omega) (by omega) (by omega)
 refine PureC.is (pure_of hm hf (Nat.le_of_ble_eq_true rfl) ?_) rfl
 unfold vec_Cross.c
 simp [go_sem,V3.enc,vcs]
 refine ACall_is (hv a) ?_
 simp [go_sem,h1]
 refine ACall_is (hv b) ?_
 simp (disch:=omega) [go_sem,h2,wrap64_small,vec_Cross.r,V3.crs]
omit hm in
theorem sub_within {a b:V3} (h1:a.valid = true) (h2:b.valid = true):(a.sub b).within 131072 = true:=by
 have g1:=V3.valid_iff.1 h1
 have g2:=V3.valid_iff.1 h2
 simp only [V3.within,Bool.and_eq_true,decide_eq_true_eq]
 simp only [V3.sub]
 omega
omit hm in
theorem v3_zero (v:V3):decide (v = ⟨0,0,0⟩) = (v.x == 0 && (v.y == 0 && v.z == 0)):=by
 cases v;rw [Bool.eq_iff_iff];simp [V3.mk.injEq]
theorem vec_Collinear_ok {f fv fs fc:FuncId} (hf:FnOk P f (vec_Collinear.c fv fs fc) vec_Collinear.r vec_Collinear.n) (hv:ValidC P fv) (hs:SubVC P fs) (hc:CrossWC P fc):CollC P f:=by
 intro a b c
 refine PureC.is (pure_of hm hf (Nat.le_of_ble_eq_true rfl) ?_) rfl
 unfold vec_Collinear.c
 simp [go_sem,V3.enc,vcs]
 refine DCall_is (hv a) ?_
 cases h1:a.valid
 ·simp [go_sem,vec_Collinear.r,collin,h1]
 simp [go_sem]
 refine DCall_is (hv b) ?_
 cases h2:b.valid
 ·simp [go_sem,vec_Collinear.r,collin,h1,h2]
 simp [go_sem]
 refine DCall_is (hv c) ?_
 cases h3:c.valid
 ·simp [go_sem,vec_Collinear.r,collin,h1,h2,h3]
 simp [go_sem]
 refine DCall_is (hs b a h2 h1) ?_
 simp [go_sem]
 refine DCall_is (hs c a h3 h1) ?_
 simp [go_sem]
 refine DCall_is (hc _ _ (sub_within h2 h1) (sub_within h3 h1)) ?_
 simp [go_sem,V3.enc,vcs,vec_Collinear.r,collin,h1,h2,h3,v3_zero]
end
end Go.Abs
