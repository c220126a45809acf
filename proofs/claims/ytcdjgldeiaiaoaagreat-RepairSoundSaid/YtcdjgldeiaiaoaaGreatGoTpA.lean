/- Part of the library on which the proof stands: an abstract machine, its values and its soundness against the model; or what functions of the program do to such values. -/
import Derived.Test.YtcdjgldeiaiaoaaGreatGoTk
set_option linter.unusedVariables false
set_option linter.unusedSimpArgs false
namespace Go.Abs
def ref10_place.c (ref10_before:FuncId):C :=(.seq (.reg [⟨some 3,none,.box (.t 1)⟩,⟨some 4,none,.mv (.c (.i .i64 0))⟩]) (.seq (.reg [⟨some 8,none,.mv (.t 0)⟩,⟨some 9,none,.len 0 (.t 8)⟩,⟨some 5,none,.mv (.c (.i .i64 0))⟩,⟨some 6,none,.mv (.t 9)⟩]) (.seq (.blk 0 (.loop (.seq (.seq (.reg [⟨some 10,none,.mv (.t 5)⟩,⟨some 11,none,.mv (.t 6)⟩,⟨some 12,none,.bin .lss (.t 10) (.t 11)⟩]) (.ite (.t 12) .skip (.exit 0))) (.blk 1 (.seq (.reg [⟨some 13,none,.mv (.t 5)⟩,⟨some 14,none,.mv (.t 6)⟩,⟨some 15,none,.bin .add (.t 13) (.t 14)⟩,⟨some 16,none,.bin .quo (.t 15) (.c (.i .i64 2))⟩,⟨some 7,none,.mv (.t 16)⟩])
 (.seq (.drw [⟨some 17,none,.mv (.t 0)⟩,⟨some 18,none,.mv (.t 7)⟩,⟨some 19,none,.ia 3 (.t 17) (.t 18)⟩,⟨some 20,none,.fa 0 (.t 19)⟩,⟨some 21,none,.ld (some 2) (.t 20)⟩,⟨some 22,none,.ld (some 2) (.t 3)⟩,⟨some 23,none,.call ref10_before [.t 21,.t 22]⟩] []) (.ite (.t 23) (.reg [⟨some 24,none,.mv (.t 7)⟩,⟨some 25,none,.bin .add (.t 24) (.c (.i .i64 1))⟩,⟨some 5,none,.mv (.t 25)⟩]) (.reg [⟨some 26,none,.mv (.t 7)⟩,⟨some 6,none,.mv (.t 26)⟩])))))))) (.seq (.reg [⟨some 27,none,.mv (.t 5)⟩,⟨some 4,none,.mv (.t 27)⟩]) .ret))))
def ref10_place.r:List Rr:=[.tmp 4]
abbrev ref10_place.n:Nat:=28
def ref10_number.c (ref10_place:FuncId):C :=(.seq (.reg [⟨some 3,none,.box (.t 1)⟩,⟨some 4,none,.mv (.c (.i .i64 0))⟩]) (.seq (.reg [⟨some 6,none,.mv (.t 0)⟩,⟨some 7,none,.ld (some 2) (.t 3)⟩,⟨some 8,none,.call ref10_place [.t 6,.t 7]⟩,⟨some 5,none,.mv (.t 8)⟩]) (.seq (.seq (.drw [⟨some 9,none,.mv (.t 5)⟩,⟨some 10,none,.mv (.t 0)⟩,⟨some 11,none,.len 0 (.t 10)⟩,⟨some 12,none,.bin .lss (.t 9) (.t 11)⟩,⟨some 13,none,.mv (.t 12)⟩,⟨some 14,(some (13,true)),.mv (.t 0)⟩,⟨some 15,(some (13,true)),.mv (.t 5)⟩,⟨some 16,(some (13,true)),.ia 3 (.t 14) (.t 15)⟩,⟨some 17,(some (13,true)),.fa 0 (.t 16)⟩,⟨some 18,(some (13,true)),.ld (some 2) (.t 17)⟩,
 ⟨some 19,(some (13,true)),.ld (some 2) (.t 3)⟩,⟨some 20,(some (13,true)),.eqa [1,1] false (.t 18) (.t 19)⟩,⟨some 21,none,.pick (.t 13) (.t 20) (.c (.b false))⟩] []) (.ite (.t 21) (.seq (.reg [⟨some 22,none,.mv (.t 0)⟩,⟨some 23,none,.mv (.t 5)⟩,⟨some 24,none,.ia 3 (.t 22) (.t 23)⟩,⟨some 25,none,.fa 2 (.t 24)⟩,⟨some 26,none,.ld none (.t 25)⟩,⟨some 4,none,.mv (.t 26)⟩]) .ret) .skip)) (.seq (.reg [⟨some 4,none,.mv (.c (.i .i64 0))⟩]) .ret))))
def ref10_number.r:List Rr:=[.tmp 4]
abbrev ref10_number.n:Nat:=27
def ref10_with.c (ref10_place:FuncId):C :=(.seq (.reg [⟨some 3,none,.box (.t 1)⟩,⟨some 4,none,.mv (.c .nil)⟩]) (.seq (.reg [⟨some 6,none,.mv (.t 0)⟩,⟨some 7,none,.ld (some 2) (.t 3)⟩,⟨some 8,none,.call ref10_place [.t 6,.t 7]⟩,⟨some 5,none,.mv (.t 8)⟩]) (.seq (.seq (.drw [⟨some 9,none,.mv (.t 5)⟩,⟨some 10,none,.mv (.t 0)⟩,⟨some 11,none,.len 0 (.t 10)⟩,⟨some 12,none,.bin .lss (.t 9) (.t 11)⟩,⟨some 13,none,.mv (.t 12)⟩,⟨some 14,(some (13,true)),.mv (.t 0)⟩,⟨some 15,(some (13,true)),.mv (.t 5)⟩,⟨some 16,(some (13,true)),.ia 3 (.t 14) (.t 15)⟩,⟨some 17,(some (13,true)),.fa 0 (.t 16)⟩,⟨some 18,(some (13,true)),.ld (some 2) (.t 17)⟩,
 ⟨some 19,(some (13,true)),.ld (some 2) (.t 3)⟩,⟨some 20,(some (13,true)),.eqa [1,1] false (.t 18) (.t 19)⟩,⟨some 21,none,.pick (.t 13) (.t 20) (.c (.b false))⟩] []) (.ite (.t 21) (.seq (.reg [⟨some 22,none,.mv (.t 0)⟩,⟨some 4,none,.mv (.t 22)⟩]) .ret) .skip)) (.seq (.reg [⟨some 23,none,.mv (.t 0)⟩,⟨some 24,none,.build [(.i .i64 0),(.i .i64 0),(.i .i64 0)] []⟩,⟨some 25,none,.bsi 3 1 [(.i .i64 0),(.i .i64 0),(.i .i64 0)] [(0,(.t 24))]⟩,⟨some 26,none,.app 3 24 (.t 23) (.t 25)⟩,⟨some 0,none,.mv (.t 26)⟩]) (.seq (.drw [⟨some 27,none,.mv (.t 0)⟩,⟨some 28,none,.mv (.t 5)⟩,⟨some 29,none,.bin .add (.t 28) (.c (.i .i64 1))⟩,
 ⟨some 30,none,.slc 3 (.t 27) (some (.t 29)) none⟩,⟨some 31,none,.mv (.t 0)⟩,⟨some 32,none,.mv (.t 5)⟩,⟨some 33,none,.slc 3 (.t 31) (some (.t 32)) none⟩,⟨some 34,none,.copy 3 (.t 30) (.t 33)⟩] []) (.seq (.reg [⟨some 35,none,.mv (.t 0)⟩,⟨some 36,none,.mv (.t 5)⟩,⟨some 37,none,.ld (some 2) (.t 3)⟩,⟨some 38,none,.build [(.i .i64 0),(.i .i64 0),(.i .i64 0)] [(0,2,(.t 37))]⟩,⟨some 39,none,.ia 3 (.t 35) (.t 36)⟩,⟨none,none,.st 3 (.t 39) (.t 38)⟩]) (.seq (.reg [⟨some 40,none,.mv (.t 0)⟩,⟨some 4,none,.mv (.t 40)⟩]) .ret)))))))
def ref10_with.r:List Rr:=[.tmp 4]
abbrev ref10_with.n:Nat:=41
def ref10_undirected.c (ref10_Directed ref10_Undirected ref10_with:FuncId):C :=(.seq (.reg [⟨some 1,none,.box (.t 0)⟩,⟨some 2,none,.mv (.c .nil)⟩]) (.seq (.reg [⟨some 3,none,.mv (.c .nil)⟩]) (.seq (.seq (.reg [⟨some 8,none,.fa 1 (.t 1)⟩,⟨some 9,none,.ld none (.t 8)⟩,⟨some 10,none,.len 0 (.t 9)⟩,⟨some 11,none,.mv (.c (.i .i64 0))⟩]) (.blk 0 (.loop (.seq (.reg [⟨some 12,none,.bin .lss (.t 11) (.t 10)⟩]) (.seq (.ite (.t 12) .skip (.exit 0)) (.seq (.blk 1 (.seq (.reg [⟨some 13,none,.ia 3 (.t 9) (.t 11)⟩,⟨some 14,none,.ld (some 3) (.t 13)⟩,⟨some 5,none,.alloc [(.i .i64 0),(.i .i64 0),(.i .i64 0)]⟩,
 ⟨none,none,.st 3 (.t 5) (.t 14)⟩]) (.seq (.reg [⟨some 15,none,.ld (some 3) (.t 5)⟩,⟨some 16,none,.call ref10_Directed [.t 15]⟩,⟨some 17,none,.len 0 (.t 16)⟩,⟨some 18,none,.mv (.c (.i .i64 0))⟩]) (.blk 2 (.loop (.seq (.reg [⟨some 19,none,.bin .lss (.t 18) (.t 17)⟩]) (.seq (.ite (.t 19) .skip (.exit 2)) (.seq (.blk 3 (.seq (.reg [⟨some 20,none,.ia 2 (.t 16) (.t 18)⟩,⟨some 21,none,.ld (some 2) (.t 20)⟩,⟨some 7,none,.alloc [(.i .i64 0),(.i .i64 0)]⟩,⟨none,none,.st 2 (.t 7) (.t 21)⟩]) (.reg [⟨some 22,none,.mv (.t 3)⟩,⟨some 23,none,.ld (some 2) (.t 7)⟩,⟨some 24,none,.call ref10_Undirected [.t 23]⟩,
 ⟨some 25,none,.call ref10_with [.t 22,.t 24]⟩,⟨some 3,none,.mv (.t 25)⟩]))) (.reg [⟨some 26,none,.bin .add (.t 18) (.c (.i .i64 1))⟩,⟨some 18,none,.mv (.t 26)⟩]))))))))) (.reg [⟨some 27,none,.bin .add (.t 11) (.c (.i .i64 1))⟩,⟨some 11,none,.mv (.t 27)⟩]))))))) (.seq (.reg [⟨some 28,none,.mv (.t 3)⟩,⟨some 2,none,.mv (.t 28)⟩]) .ret))))
def ref10_undirected.r:List Rr:=[.tmp 2]
abbrev ref10_undirected.n:Nat:=29
def ref10_spread.c (ref10_undirected ref10_Directed ref10_Undirected ref10_place ref10_number:FuncId):C :=(.seq (.reg [⟨some 2,none,.box (.t 0)⟩,⟨some 4,none,.mv (.c .nil)⟩,⟨some 5,none,.mv (.c (.b false))⟩]) (.seq (.reg [⟨some 20,none,.ld (some 2) (.t 2)⟩,⟨some 21,none,.call ref10_undirected [.t 20]⟩,⟨some 6,none,.mv (.t 21)⟩]) (.seq (.seq (.reg [⟨some 22,none,.mv (.t 6)⟩,⟨some 23,none,.len 0 (.t 22)⟩,⟨some 24,none,.mv (.c (.i .i64 0))⟩]) (.blk 0 (.loop (.seq (.reg [⟨some 25,none,.bin .lss (.t 24) (.t 23)⟩]) (.seq (.ite (.t 25) .skip (.exit 0)) (.seq (.blk 1 (.seq (.reg [⟨some 26,none,.mv (.t 24)⟩,
 ⟨some 7,none,.mv (.t 26)⟩]) (.reg [⟨some 27,none,.mv (.t 6)⟩,⟨some 28,none,.mv (.t 7)⟩,⟨some 29,none,.mv (.t 1)⟩,⟨some 30,none,.len 0 (.t 29)⟩,⟨some 31,none,.ia 3 (.t 27) (.t 28)⟩,⟨some 32,none,.fa 2 (.t 31)⟩,⟨none,none,.st 1 (.t 32) (.t 30)⟩]))) (.reg [⟨some 33,none,.bin .add (.t 24) (.c (.i .i64 1))⟩,⟨some 24,none,.mv (.t 33)⟩]))))))) (.seq (.seq (.reg [⟨some 34,none,.fa 1 (.t 2)⟩,⟨some 35,none,.ld none (.t 34)⟩,⟨some 36,none,.len 0 (.t 35)⟩,⟨some 37,none,.mv (.c (.i .i64 0))⟩]) (.blk 2 (.loop (.seq (.reg [⟨some 38,none,.bin .lss (.t 37) (.t 36)⟩]) (.seq (.ite (.t 38) .skip (.exit 2)) (.seq
 (.blk 3 (.seq (.reg [⟨some 39,none,.mv (.t 37)⟩,⟨some 40,none,.ia 3 (.t 35) (.t 37)⟩,⟨some 41,none,.ld (some 3) (.t 40)⟩,⟨some 9,none,.alloc [(.i .i64 0),(.i .i64 0),(.i .i64 0)]⟩,⟨some 8,none,.mv (.t 39)⟩,⟨none,none,.st 3 (.t 9) (.t 41)⟩]) (.seq (.reg [⟨some 42,none,.ld (some 3) (.t 9)⟩,⟨some 43,none,.call ref10_Directed [.t 42]⟩,⟨some 44,none,.len 0 (.t 43)⟩,⟨some 45,none,.mv (.c (.i .i64 0))⟩]) (.blk 4 (.loop (.seq (.reg [⟨some 46,none,.bin .lss (.t 45) (.t 44)⟩]) (.seq (.ite (.t 46) .skip (.exit 4)) (.seq (.blk 5 (.seq (.reg [⟨some 47,none,.ia 2 (.t 43) (.t 45)⟩,⟨some 48,none,.ld (some 2) (.t 47)⟩,
 ⟨some 11,none,.alloc [(.i .i64 0),(.i .i64 0)]⟩,⟨none,none,.st 2 (.t 11) (.t 48)⟩]) (.seq (.reg [⟨some 49,none,.mv (.t 6)⟩,⟨some 50,none,.ld (some 2) (.t 11)⟩,⟨some 51,none,.call ref10_Undirected [.t 50]⟩,⟨some 52,none,.call ref10_place [.t 49,.t 51]⟩,⟨some 12,none,.mv (.t 52)⟩]) (.drw [⟨some 53,none,.mv (.t 6)⟩,⟨some 54,none,.mv (.t 12)⟩,⟨some 55,none,.mv (.t 6)⟩,⟨some 56,none,.mv (.t 12)⟩,⟨some 57,none,.ia 3 (.t 55) (.t 56)⟩,⟨some 58,none,.fa 2 (.t 57)⟩,⟨some 59,none,.ld none (.t 58)⟩,⟨some 60,none,.mv (.t 1)⟩,⟨some 61,none,.mv (.t 8)⟩,⟨some 62,none,.ia 1 (.t 60) (.t 61)⟩,⟨some 63,none,.ld none (.t 62)⟩,
 ⟨some 64,none,.mn [.t 59,.t 63]⟩,⟨some 65,none,.ia 3 (.t 53) (.t 54)⟩,⟨some 66,none,.fa 2 (.t 65)⟩,⟨none,none,.st 1 (.t 66) (.t 64)⟩] [])))) (.reg [⟨some 67,none,.bin .add (.t 45) (.c (.i .i64 1))⟩,⟨some 45,none,.mv (.t 67)⟩]))))))))) (.reg [⟨some 68,none,.bin .add (.t 37) (.c (.i .i64 1))⟩,⟨some 37,none,.mv (.t 68)⟩]))))))) (.seq (.reg [⟨some 13,none,.mv (.c .nil)⟩]) (.seq (.reg [⟨some 14,none,.mv (.c (.b false))⟩]) (.seq (.seq (.reg [⟨some 69,none,.fa 1 (.t 2)⟩,⟨some 70,none,.ld none (.t 69)⟩,⟨some 71,none,.len 0 (.t 70)⟩,⟨some 72,none,.mv (.c (.i .i64 0))⟩]) (.blk 6 (.loop (.seq (.reg [⟨some 73,none,.bin .lss (.t 72) (.t 71)⟩])
 (.seq (.ite (.t 73) .skip (.exit 6)) (.seq (.blk 7 (.seq (.reg [⟨some 74,none,.mv (.t 72)⟩,⟨some 75,none,.ia 3 (.t 70) (.t 72)⟩,⟨some 76,none,.ld (some 3) (.t 75)⟩,⟨some 16,none,.alloc [(.i .i64 0),(.i .i64 0),(.i .i64 0)]⟩,⟨some 15,none,.mv (.t 74)⟩,⟨none,none,.st 3 (.t 16) (.t 76)⟩]) (.seq (.reg [⟨some 77,none,.mv (.t 1)⟩,⟨some 78,none,.mv (.t 15)⟩,⟨some 79,none,.ia 1 (.t 77) (.t 78)⟩,⟨some 80,none,.ld none (.t 79)⟩,⟨some 17,none,.mv (.t 80)⟩]) (.seq (.seq (.reg [⟨some 81,none,.ld (some 3) (.t 16)⟩,⟨some 82,none,.call ref10_Directed [.t 81]⟩,⟨some 83,none,.len 0 (.t 82)⟩,⟨some 84,none,.mv (.c (.i .i64 0))⟩])
 (.blk 8 (.loop (.seq (.reg [⟨some 85,none,.bin .lss (.t 84) (.t 83)⟩]) (.seq (.ite (.t 85) .skip (.exit 8)) (.seq (.blk 9 (.seq (.reg [⟨some 86,none,.ia 2 (.t 82) (.t 84)⟩,⟨some 87,none,.ld (some 2) (.t 86)⟩,⟨some 19,none,.alloc [(.i .i64 0),(.i .i64 0)]⟩,⟨none,none,.st 2 (.t 19) (.t 87)⟩]) (.reg [⟨some 88,none,.mv (.t 17)⟩,⟨some 89,none,.mv (.t 6)⟩,⟨some 90,none,.ld (some 2) (.t 19)⟩,⟨some 91,none,.call ref10_Undirected [.t 90]⟩,⟨some 92,none,.call ref10_number [.t 89,.t 91]⟩,⟨some 93,none,.mn [.t 88,.t 92]⟩,⟨some 17,none,.mv (.t 93)⟩]))) (.reg [⟨some 94,none,.bin .add (.t 84) (.c (.i .i64 1))⟩,
 ⟨some 84,none,.mv (.t 94)⟩]))))))) (.seq (.reg [⟨some 95,none,.mv (.t 14)⟩,⟨some 96,none,.mv (.t 95)⟩,⟨some 97,(some (96,false)),.mv (.t 17)⟩,⟨some 98,(some (96,false)),.mv (.t 1)⟩,⟨some 99,(some (96,false)),.mv (.t 15)⟩,⟨some 100,(some (96,false)),.ia 1 (.t 98) (.t 99)⟩,⟨some 101,(some (96,false)),.ld none (.t 100)⟩,⟨some 102,(some (96,false)),.bin .neq (.t 97) (.t 101)⟩,⟨some 103,none,.pick (.t 96) (.c (.b true)) (.t 102)⟩,⟨some 14,none,.mv (.t 103)⟩]) (.reg [⟨some 104,none,.mv (.t 13)⟩,⟨some 105,none,.mv (.t 17)⟩,⟨some 106,none,.bsi 1 1 [(.i .i64 0)] [(0,(.t 105))]⟩,⟨some 107,none,.app 1 8 (.t 104) (.t 106)⟩,
 ⟨some 13,none,.mv (.t 107)⟩])))))) (.reg [⟨some 108,none,.bin .add (.t 72) (.c (.i .i64 1))⟩,⟨some 72,none,.mv (.t 108)⟩]))))))) (.seq (.reg [⟨some 109,none,.mv (.t 13)⟩,⟨some 110,none,.mv (.t 14)⟩,⟨some 4,none,.mv (.t 109)⟩,⟨some 5,none,.mv (.t 110)⟩]) .ret))))))))
def ref10_spread.r:List Rr:=[.tmp 4,.tmp 5]
abbrev ref10_spread.n:Nat:=111
def ref10_Shells.c (ref07_Check ref10_spread:FuncId):C :=(.seq (.reg [⟨some 1,none,.box (.t 0)⟩,⟨some 2,none,.mv (.c .nil)⟩]) (.seq (.seq (.reg [⟨some 10,none,.ld (some 2) (.t 1)⟩,⟨some 11,none,.call ref07_Check [.t 10]⟩,⟨some 12,none,.bin .neq (.t 11) (.c (.i .i64 0))⟩]) (.ite (.t 12) (.seq (.reg [⟨some 2,none,.mv (.c .nil)⟩]) .ret) .skip)) (.seq (.reg [⟨some 3,none,.mv (.c .nil)⟩]) (.seq (.seq (.reg [⟨some 13,none,.fa 1 (.t 1)⟩,⟨some 14,none,.ld none (.t 13)⟩,⟨some 15,none,.len 0 (.t 14)⟩,⟨some 16,none,.mv (.c (.i .i64 0))⟩]) (.blk 0 (.loop (.seq (.reg [⟨some 17,none,.bin .lss (.t 16) (.t 15)⟩])
 (.seq (.ite (.t 17) .skip (.exit 0)) (.seq (.blk 1 (.seq (.reg [⟨some 18,none,.mv (.t 16)⟩,⟨some 4,none,.mv (.t 18)⟩]) (.reg [⟨some 19,none,.mv (.t 3)⟩,⟨some 20,none,.mv (.t 4)⟩,⟨some 21,none,.bsi 1 1 [(.i .i64 0)] [(0,(.t 20))]⟩,⟨some 22,none,.app 1 8 (.t 19) (.t 21)⟩,⟨some 3,none,.mv (.t 22)⟩]))) (.reg [⟨some 23,none,.bin .add (.t 16) (.c (.i .i64 1))⟩,⟨some 16,none,.mv (.t 23)⟩]))))))) (.seq (.seq (.reg [⟨some 5,none,.mv (.c (.b true))⟩]) (.blk 2 (.loop (.seq (.seq (.reg [⟨some 24,none,.mv (.t 5)⟩]) (.ite (.t 24) .skip (.exit 2))) (.blk 3 (.reg [⟨some 26,none,.ld (some 2) (.t 1)⟩,⟨some 27,none,.mv (.t 3)⟩,
 ⟨some 28,none,.call ref10_spread [.t 26,.t 27]⟩,⟨some 25,none,.mv (.t 28)⟩,⟨some 29,none,.ext (.t 25) 0⟩,⟨some 30,none,.ext (.t 25) 1⟩,⟨some 3,none,.mv (.t 29)⟩,⟨some 5,none,.mv (.t 30)⟩])))))) (.seq (.reg [⟨some 6,none,.mv (.c .nil)⟩]) (.seq (.seq (.reg [⟨some 31,none,.mv (.t 3)⟩,⟨some 32,none,.len 0 (.t 31)⟩,⟨some 33,none,.mv (.c (.i .i64 0))⟩]) (.blk 4 (.loop (.seq (.reg [⟨some 34,none,.bin .lss (.t 33) (.t 32)⟩]) (.seq (.ite (.t 34) .skip (.exit 4)) (.seq (.blk 5 (.seq (.reg [⟨some 35,none,.mv (.t 33)⟩,⟨some 7,none,.mv (.t 35)⟩]) (.seq (.seq (.reg [⟨some 36,none,.mv (.t 3)⟩,⟨some 37,none,.mv (.t 7)⟩,
 ⟨some 38,none,.ia 1 (.t 36) (.t 37)⟩,⟨some 39,none,.ld none (.t 38)⟩,⟨some 40,none,.mv (.t 7)⟩,⟨some 41,none,.bin .neq (.t 39) (.t 40)⟩]) (.ite (.t 41) (.exit 5) .skip)) (.seq (.reg [⟨some 8,none,.mv (.c .nil)⟩]) (.seq (.seq (.reg [⟨some 42,none,.mv (.t 7)⟩,⟨some 9,none,.mv (.t 42)⟩]) (.blk 6 (.loop (.seq (.seq (.reg [⟨some 43,none,.mv (.t 9)⟩,⟨some 44,none,.mv (.t 3)⟩,⟨some 45,none,.len 0 (.t 44)⟩,⟨some 46,none,.bin .lss (.t 43) (.t 45)⟩]) (.ite (.t 46) .skip (.exit 6))) (.seq (.blk 7 (.seq (.reg [⟨some 49,none,.mv (.t 3)⟩,⟨some 50,none,.mv (.t 9)⟩,⟨some 51,none,.ia 1 (.t 49) (.t 50)⟩,⟨some 52,none,.ld none (.t 51)⟩,
 ⟨some 53,none,.mv (.t 7)⟩,⟨some 54,none,.bin .eql (.t 52) (.t 53)⟩]) (.ite (.t 54) (.reg [⟨some 55,none,.mv (.t 8)⟩,⟨some 56,none,.mv (.t 9)⟩,⟨some 57,none,.bsi 1 1 [(.i .i64 0)] [(0,(.t 56))]⟩,⟨some 58,none,.app 1 8 (.t 55) (.t 57)⟩,⟨some 8,none,.mv (.t 58)⟩]) .skip))) (.reg [⟨some 47,none,.mv (.t 9)⟩,⟨some 48,none,.bin .add (.t 47) (.c (.i .i64 1))⟩,⟨some 9,none,.mv (.t 48)⟩])))))) (.reg [⟨some 59,none,.mv (.t 6)⟩,⟨some 60,none,.mv (.t 8)⟩,⟨some 61,none,.bso 1 1 [.nil] [(0,(.t 60))]⟩,⟨some 62,none,.app 1 24 (.t 59) (.t 61)⟩,⟨some 6,none,.mv (.t 62)⟩])))))) (.reg [⟨some 63,none,.bin .add (.t 33) (.c (.i .i64 1))⟩,
 ⟨some 33,none,.mv (.t 63)⟩]))))))) (.seq (.reg [⟨some 64,none,.mv (.t 6)⟩,⟨some 2,none,.mv (.t 64)⟩]) .ret))))))))
def ref10_Shells.r:List Rr:=[.tmp 2]
abbrev ref10_Shells.n:Nat:=65
def ref10_before.c:C :=(.seq (.reg [⟨some 2,none,.box (.t 0)⟩,⟨some 3,none,.box (.t 1)⟩,⟨some 4,none,.mv (.c (.b false))⟩]) (.seq (.reg [⟨some 5,none,.fa 0 (.t 2)⟩,⟨some 6,none,.ld none (.t 5)⟩,⟨some 7,none,.fa 0 (.t 3)⟩,⟨some 8,none,.ld none (.t 7)⟩,⟨some 9,none,.bin .lss (.t 6) (.t 8)⟩,⟨some 10,none,.mv (.t 9)⟩,⟨some 11,(some (10,false)),.fa 0 (.t 2)⟩,⟨some 12,(some (10,false)),.ld none (.t 11)⟩,⟨some 13,(some (10,false)),.fa 0 (.t 3)⟩,⟨some 14,(some (10,false)),.ld none (.t 13)⟩,⟨some 15,(some (10,false)),.bin .eql (.t 12) (.t 14)⟩,⟨some 16,(some (10,false)),.mv (.t 15)⟩,⟨some 17,(some (16,true)),.fa 1 (.t 2)⟩,
 ⟨some 18,(some (16,true)),.ld none (.t 17)⟩,⟨some 19,(some (16,true)),.fa 1 (.t 3)⟩,⟨some 20,(some (16,true)),.ld none (.t 19)⟩,⟨some 21,(some (16,true)),.bin .lss (.t 18) (.t 20)⟩,⟨some 22,(some (10,false)),.pick (.t 16) (.t 21) (.c (.b false))⟩,⟨some 23,none,.pick (.t 10) (.c (.b true)) (.t 22)⟩,⟨some 4,none,.mv (.t 23)⟩]) .ret))
def ref10_before.r:List Rr:=[.tmp 4]
abbrev ref10_before.n:Nat:=24
def ref10_Undirected.c:C :=(.seq (.reg [⟨some 1,none,.box (.t 0)⟩,⟨some 2,none,.alloc [(.i .i64 0),(.i .i64 0)]⟩]) (.seq (.reg [⟨some 3,none,.fa 0 (.t 1)⟩,⟨some 4,none,.ld none (.t 3)⟩,⟨some 5,none,.fa 1 (.t 1)⟩,⟨some 6,none,.ld none (.t 5)⟩,⟨some 7,none,.mn [.t 4,.t 6]⟩,⟨some 8,none,.fa 0 (.t 1)⟩,⟨some 9,none,.ld none (.t 8)⟩,⟨some 10,none,.fa 1 (.t 1)⟩,⟨some 11,none,.ld none (.t 10)⟩,⟨some 12,none,.mx [.t 9,.t 11]⟩,⟨some 13,none,.build [(.i .i64 0),(.i .i64 0)] [(0,1,(.t 7)),(1,1,(.t 12))]⟩,⟨none,none,.st 2 (.t 2) (.t 13)⟩]) .ret))
def ref10_Undirected.r:List Rr:=[.cell 2 (some 2)]
abbrev ref10_Undirected.n:Nat:=14
def ref10_Directed.c:C :=(.seq (.reg [⟨some 1,none,.box (.t 0)⟩,⟨some 2,none,.mv (.c .nil)⟩]) (.seq (.reg [⟨some 3,none,.mv (.c .nil)⟩]) (.seq (.reg [⟨some 7,none,.fa 0 (.t 1)⟩,⟨some 8,none,.ld none (.t 7)⟩,⟨some 9,none,.fa 1 (.t 1)⟩,⟨some 10,none,.ld none (.t 9)⟩,⟨some 11,none,.build [(.i .i64 0),(.i .i64 0)] [(0,1,(.t 8)),(1,1,(.t 10))]⟩,⟨some 12,none,.fa 1 (.t 1)⟩,⟨some 13,none,.ld none (.t 12)⟩,⟨some 14,none,.fa 2 (.t 1)⟩,⟨some 15,none,.ld none (.t 14)⟩,⟨some 16,none,.build [(.i .i64 0),(.i .i64 0)] [(0,1,(.t 13)),(1,1,(.t 15))]⟩,⟨some 17,none,.fa 2 (.t 1)⟩,⟨some 18,none,.ld none (.t 17)⟩,
 ⟨some 19,none,.fa 0 (.t 1)⟩,⟨some 20,none,.ld none (.t 19)⟩,⟨some 21,none,.build [(.i .i64 0),(.i .i64 0)] [(0,1,(.t 18)),(1,1,(.t 20))]⟩,⟨some 22,none,.bso 2 3 [(.i .i64 0),(.i .i64 0)] [(0,(.t 11)),(1,(.t 16)),(2,(.t 21))]⟩,⟨some 4,none,.mv (.t 22)⟩]) (.seq (.seq (.reg [⟨some 23,none,.mv (.t 4)⟩,⟨some 24,none,.len 0 (.t 23)⟩,⟨some 25,none,.mv (.c (.i .i64 0))⟩]) (.blk 0 (.loop (.seq (.reg [⟨some 26,none,.bin .lss (.t 25) (.t 24)⟩]) (.seq (.ite (.t 26) .skip (.exit 0)) (.seq (.blk 1 (.seq (.reg [⟨some 27,none,.ia 2 (.t 23) (.t 25)⟩,⟨some 28,none,.ld (some 2) (.t 27)⟩,⟨some 6,none,.alloc [(.i .i64 0),(.i .i64 0)]⟩,
 ⟨none,none,.st 2 (.t 6) (.t 28)⟩]) (.seq (.reg [⟨some 29,none,.fa 0 (.t 6)⟩,⟨some 30,none,.ld none (.t 29)⟩,⟨some 31,none,.fa 1 (.t 6)⟩,⟨some 32,none,.ld none (.t 31)⟩,⟨some 33,none,.bin .neq (.t 30) (.t 32)⟩]) (.ite (.t 33) (.reg [⟨some 34,none,.mv (.t 3)⟩,⟨some 35,none,.ld (some 2) (.t 6)⟩,⟨some 36,none,.bsi 2 1 [(.i .i64 0),(.i .i64 0)] [(0,(.t 35))]⟩,⟨some 37,none,.app 2 16 (.t 34) (.t 36)⟩,⟨some 3,none,.mv (.t 37)⟩]) .skip)))) (.reg [⟨some 38,none,.bin .add (.t 25) (.c (.i .i64 1))⟩,⟨some 25,none,.mv (.t 38)⟩]))))))) (.seq (.reg [⟨some 39,none,.mv (.t 3)⟩,⟨some 2,none,.mv (.t 39)⟩]) .ret)))))
def ref10_Directed.r:List Rr:=[.tmp 2]
abbrev ref10_Directed.n:Nat:=40
end Go.Abs
set_option linter.unusedVariables false
set_option linter.unusedSimpArgs false
namespace Go.Abs
def BeforeEC (P:Program) (f:FuncId):Prop:=∀ a b:P2,CallIs P f [a.enc,b.enc] (.b (decide (P2.lt a b)))
def PlaceC (P:Program) (f:FuncId):Prop:=∀ (l:List Use) (e:P2),ascU l→l.length ≤ 1000000→CallIs P f [useV l,e.enc] (.i .i64 (pl l e))
def NumberC (P:Program) (f:FuncId):Prop:=∀ (l:List Use) (e:P2),ascU l→l.length ≤ 1000000→CallIs P f [useV l,e.enc] (.i .i64 (numU l e))
theorem useCs (u:Use):uCs u = [.i .i64 u.1.x,.i .i64 u.1.y,.i .i64 u.2]:=Rfl rfl
theorem uCs_isD (l:List Use):∀ el ∈ l.map uCs,∀ x ∈ el,x.isD = true:=by
 intro el hel x hx
 obtain⟨u,_,rfl⟩:=List.mem_map.1 hel
 simp [uCs] at hx
 rcases hx with rfl | rfl | rfl <;> rfl
theorem p2_eq (a b:P2):decide (a = b) = (a.x == b.x && a.y == b.y):=by cases a;cases b;rw [Bool.eq_iff_iff];simp [P2.mk.injEq]
theorem quo2 (a:Nat):((a:Int)).tdiv 2 = ((a / 2:Nat):Int):=by
 rw [Int.tdiv_eq_ediv_of_nonneg (by omega)];omega
section
variable {P:Program} (hm:P.follows .mixedOrders = true)
include hm
theorem ref10_before_ok {f:FuncId} (hf:FnOk P f ref10_before.c ref10_before.r ref10_before.n):BeforeEC P f:=by
 intro a b
 refine PureC.is (pure_of hm hf (Nat.le_of_ble_eq_true rfl) ?_) rfl
 unfold ref10_before.c
 by_cases h1:a.x < b.x
 ·simp [go_sem,P2.enc,pcs,h1,ref10_before.r,P2.lt]
 ·by_cases h2:a.x = b.x
  ·simp [go_sem,P2.enc,pcs,h1,h2,ref10_before.r,P2.lt]
  ·simp [go_sem,P2.enc,pcs,h1,h2,show (a.x == b.x) = false by simp [h2],ref10_before.r,P2.lt]
theorem ref10_Undirected_ok {f:FuncId} (hf:FnOk P f ref10_Undirected.c ref10_Undirected.r ref10_Undirected.n):UndC P f:=topo_undirected_ok hm hf
theorem ref10_Directed_ok {f:FuncId} (hf:FnOk P f ref10_Directed.c ref10_Directed.r ref10_Directed.n):EdgesC P f:=by
 intro t
 refine PureC.is (pure_of hm hf (Nat.le_of_ble_eq_true rfl) ?_) rfl
 unfold ref10_Directed.c
 simp [go_sem,T3.enc,T3.cs]
 have w1:IntKind.i64.wrap 1 = 1:=rfl
 have w2:IntKind.i64.wrap 2 = 2:=rfl
 have w3:IntKind.i64.wrap 3 = 3:=rfl
 refine AS_loopG [.t 3 2] (α:=Nat) (fun k=>k ≤ 3)
  (fun k=>⟨[(3,.own 2 ((edgesK t k).length + 1) 0 (edgesK t k).length),(23,.own 1 1 0 3),(24,.i .i64 3),(25,.i .i64 k)],
   [.dead,.arr 1 2 [[.i .i64 t.a,.i .i64 t.b],[.i .i64 t.b,.i .i64 t.c],[.i .i64 t.c,.i .i64 t.a]],.arr ((edgesK t k).length + 1) 2 ((edgesK t k).map P2.cs)]⟩)
  (fun k=>3 - k) 0 (by omega) ?_ ?_
 ·simp [go_sem,edgesK_0,V.cl,V.cl1,V.cl0]
 ·intro k hk
  have hl:=edgesK_le t k
  by_cases h3:k = 3
  ·subst h3
   simp [go_sem,ref10_Directed.r,psV,edgesOf,p2_isD]
  ·have:k = 0 ∨ k = 1 ∨ k = 2:=by omega
   rcases this with rfl | rfl | rfl
   ·have hs:=edgesK_1 t
    generalize hE:edgesK t 0 = E0 at hs hl
    by_cases h:t.a = t.b
    ·rw [if_pos h] at hs
     simp [go_sem,h,w1,w2,w3]
     exact⟨1,by omega,by omega,by simp [hs],by simp [hs],by simp [p2_cl]⟩
    ·rw [if_neg h] at hs
     simp [go_sem,h,w1,w2,w3]
     exact⟨by omega,1,by omega,by omega,by simp [hs],by simp [hs,pcs,or_imp,forall_and,V.cl,V.cl1,V.cl0]⟩
   ·have hs:=edgesK_2 t
    generalize hE:edgesK t 1 = E0 at hs hl
    by_cases h:t.b = t.c
    ·rw [if_pos h] at hs
     simp [go_sem,h,w1,w2,w3]
     exact⟨2,by omega,by omega,by simp [hs],by simp [hs],by simp [p2_cl]⟩
    ·rw [if_neg h] at hs
     simp [go_sem,h,w1,w2,w3]
     exact⟨by omega,2,by omega,by omega,by simp [hs],by simp [hs,pcs,or_imp,forall_and,V.cl,V.cl1,V.cl0]⟩
   ·have hs:=edgesK_3 t
    generalize hE:edgesK t 2 = E0 at hs hl
    by_cases h:t.c = t.a
    ·rw [if_pos h] at hs
     simp [go_sem,h,w1,w2,w3]
     exact⟨3,by omega,by omega,by simp [hs],by simp [hs],by simp [p2_cl]⟩
    ·rw [if_neg h] at hs
     simp [go_sem,h,w1,w2,w3]
     exact⟨by omega,3,by omega,by omega,by simp [hs],by simp [hs,pcs,or_imp,forall_and,V.cl,V.cl1,V.cl0]⟩
set_option maxHeartbeats 1000000 in
theorem ref10_place_ok {f fb:FuncId} (hf:FnOk P f (ref10_place.c fb) ref10_place.r ref10_place.n) (hb:BeforeEC P fb):PlaceC P f:=by
 intro l e hasc hl
 have hpl:=pl_le l e
 refine PureC.is (pure_of hm hf (Nat.le_of_ble_eq_true rfl) ?_) rfl
 unfold ref10_place.c
 simp [go_sem,P2.enc,pcs,useV]
 refine AS_loop (α:=Nat × Nat) (fun p=>p.1 ≤ pl l e∧pl l e ≤ p.2∧p.2 ≤ l.length) (fun p=>⟨[(0,useV l),(3,.p 0 1 0 0),(5,.i .i64 p.1),(6,.i .i64 p.2)],[.arr 1 2 [e.cs]]⟩) (fun p=>p.2 - p.1) (0,l.length) ⟨by omega,by omega,by omega⟩ ?_ ?_
 ·simp [go_sem,useV,pcs]
 ·rintro⟨lo,hi⟩ ⟨h1,h2,h3⟩
  simp only at h1 h2 h3 ⊢
  by_cases hlh:lo < hi
  ·obtain⟨mid,hmd⟩:∃ mid,mid = (lo + hi) / 2:=⟨_,rfl⟩
   have hq:IntKind.i64.wrap (((lo:Int) + (hi:Int)).tdiv 2) = (mid:Int):=by
    rw [← Int.natCast_add,quo2,hmd];exact wrap64_small (by omega) (by omega)
   have hm1:lo ≤ mid:=by omega
   have hm2:mid < hi:=by omega
   clear hmd
   have hmid:mid < l.length:=by omega
   have hp:l[mid]? = some l[mid]:=List.getElem?_eq_getElem hmid
   have hsp:=pl_spec (e:=e) hasc hp
   generalize l[mid] = u at hp hsp
   obtain⟨_,hp'⟩:=List.getElem?_eq_some_iff.1 hp
   have hb1:=hb u.1 e
   simp only [P2.enc,pcs] at hb1
   simp (disch:=omega) [go_sem,useV,pcs,hlh,wrap64_small,hq,hp,hp',useCs,hmid]
   refine DCall_is hb1 ?_
   by_cases hue:P2.lt u.1 e
   ·have:=hsp.1 hue
    simp (disch:=omega) [go_sem,useV,pcs,hue,wrap64_small]
    exact⟨mid + 1,hi,⟨by omega,by omega,by omega⟩,by omega,by simp,rfl⟩
   ·have:¬ mid < pl l e:=fun h=>hue (hsp.2 h)
    simp (disch:=omega) [go_sem,useV,pcs,hue,wrap64_small]
    exact⟨lo,mid,⟨by omega,by omega,by omega⟩,by omega,rfl,rfl⟩
  ·obtain rfl:lo = hi:=by omega
   obtain rfl:lo = pl l e:=by omega
   simp [go_sem,useV,pcs,ref10_place.r]
theorem ref10_number_ok {f fp:FuncId} (hf:FnOk P f (ref10_number.c fp) ref10_number.r ref10_number.n) (hp:PlaceC P fp):NumberC P f:=by
 intro l e hasc hl
 have hpl:=pl_le l e
 refine PureC.is (pure_of hm hf (Nat.le_of_ble_eq_true rfl) ?_) rfl
 unfold ref10_number.c
 have hp1:=hp l e hasc hl
 simp only [P2.enc,pcs,useV] at hp1
 simp [go_sem,P2.enc,pcs,useV]
 refine ACall_is hp1 ?_
 by_cases hlt:pl l e < l.length
 ·have hq:l[pl l e]? = some l[pl l e]:=List.getElem?_eq_getElem hlt
  have hn:numU l e = if l[pl l e].1 = e then l[pl l e].2 else 0:=by
   unfold numU;simp [hq]
  generalize l[pl l e] = u at hq hn
  obtain⟨_,hq'⟩:=List.getElem?_eq_some_iff.1 hq
  by_cases hue:u.1 = e
  ·rw [if_pos hue] at hn
   rw [hn]
   have he:=p2_eq u.1 e
   rw [decide_eq_true hue] at he
   simp (disch:=omega) [go_sem,hlt,hq,hq',useCs,← he,ref10_number.r]
  ·rw [if_neg hue] at hn
   rw [hn]
   have he:=p2_eq u.1 e
   rw [decide_eq_false hue] at he
   simp (disch:=omega) [go_sem,hlt,hq,hq',useCs,← he,ref10_number.r]
 ·have hn:numU l e = 0:=by
   unfold numU;rw [List.getElem?_eq_none (by omega)]
  rw [hn]
  simp (disch:=omega) [go_sem,hlt,ref10_number.r]
end
end Go.Abs
