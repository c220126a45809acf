/- Part of the library on which the proof stands: an abstract machine, its values and its soundness against the model; or what functions of the program do to such values. -/
import Derived.Test.YtcdjgldeiaiaoaaGreatGoClone
import Derived.Test.YtcdjgldeiaiaoaaGreatGoRevC
set_option linter.unusedVariables false
set_option linter.unusedSimpArgs false
namespace Go.Abs
def orient_Coherent.c (mesh_Check orient_coherent:FuncId):C :=(.seq (.reg [⟨some 1,none,.box (.t 0)⟩,⟨some 2,none,.mv (.c (.b false))⟩]) (.seq (.reg [⟨some 3,none,.ld (some 2) (.t 1)⟩,⟨some 4,none,.call mesh_Check [.t 3]⟩,⟨some 5,none,.bin .eql (.t 4) (.c (.i .i64 0))⟩,⟨some 6,none,.mv (.t 5)⟩,⟨some 7,(some (6,true)),.fa 1 (.t 1)⟩,⟨some 8,(some (6,true)),.ld none (.t 7)⟩,⟨some 9,(some (6,true)),.call orient_coherent [.t 8]⟩,⟨some 10,none,.pick (.t 6) (.t 9) (.c (.b false))⟩,⟨some 2,none,.mv (.t 10)⟩]) .ret))
def orient_Coherent.r:List Rr:=[.tmp 2]
abbrev orient_Coherent.n:Nat:=11
def orient_coherent.c (orient_edges:FuncId):C :=(.seq (.reg [⟨some 2,none,.mv (.c (.b false))⟩]) (.seq (.reg [⟨some 8,none,.mkm none⟩,⟨some 3,none,.mv (.t 8)⟩]) (.seq (.seq (.reg [⟨some 9,none,.mv (.t 0)⟩,⟨some 10,none,.len 0 (.t 9)⟩,⟨some 11,none,.mv (.c (.i .i64 0))⟩]) (.blk 0 (.loop (.seq (.reg [⟨some 12,none,.bin .lss (.t 11) (.t 10)⟩]) (.seq (.ite (.t 12) .skip (.exit 0)) (.seq (.blk 1 (.seq (.reg [⟨some 13,none,.ia 3 (.t 9) (.t 11)⟩,⟨some 14,none,.ld (some 3) (.t 13)⟩,⟨some 5,none,.alloc [(.i .i64 0),(.i .i64 0),(.i .i64 0)]⟩,⟨none,none,.st 3 (.t 5) (.t 14)⟩]) (.seq (.reg [⟨some 15,none,.ld (some 3) (.t 5)⟩,
 ⟨some 16,none,.call orient_edges [.t 15]⟩,⟨some 17,none,.len 0 (.t 16)⟩,⟨some 18,none,.mv (.c (.i .i64 0))⟩]) (.blk 2 (.loop (.seq (.reg [⟨some 19,none,.bin .lss (.t 18) (.t 17)⟩]) (.seq (.ite (.t 19) .skip (.exit 2)) (.seq (.blk 3 (.seq (.reg [⟨some 20,none,.ia 2 (.t 16) (.t 18)⟩,⟨some 21,none,.ld (some 2) (.t 20)⟩,⟨some 7,none,.alloc [(.i .i64 0),(.i .i64 0)]⟩,⟨none,none,.st 2 (.t 7) (.t 21)⟩]) (.seq (.reg [⟨some 22,none,.mv (.t 3)⟩,⟨some 23,none,.ld (some 2) (.t 7)⟩,⟨none,none,.eqa [1,1] false (.t 23) (.t 23)⟩,⟨some 24,none,.lk [1,1] (.i .i64 0) false (.t 22) (.t 23)⟩,⟨some 25,none,.bin .add (.t 24) (.c (.i .i64 1))⟩,
 ⟨some 26,none,.ment [1,1] (.i .i64 0) (.t 22) (.t 23)⟩,⟨some 27,none,.ext (.t 26) 1⟩,⟨none,none,.est (.t 22) (.t 27) (.t 25)⟩]) (.seq (.reg [⟨some 28,none,.mv (.t 3)⟩,⟨some 29,none,.ld (some 2) (.t 7)⟩,⟨some 30,none,.lk [1,1] (.i .i64 0) false (.t 28) (.t 29)⟩,⟨some 31,none,.bin .gtr (.t 30) (.c (.i .i64 1))⟩]) (.ite (.t 31) (.seq (.reg [⟨some 2,none,.mv (.c (.b false))⟩]) .ret) .skip))))) (.reg [⟨some 32,none,.bin .add (.t 18) (.c (.i .i64 1))⟩,⟨some 18,none,.mv (.t 32)⟩]))))))))) (.reg [⟨some 33,none,.bin .add (.t 11) (.c (.i .i64 1))⟩,⟨some 11,none,.mv (.t 33)⟩]))))))) (.seq (.reg [⟨some 2,none,.mv (.c (.b true))⟩])
 .ret))))
def orient_coherent.r:List Rr:=[.tmp 2]
abbrev orient_coherent.n:Nat:=34
def orient_edges.c:C :=(.seq (.reg [⟨some 1,none,.box (.t 0)⟩,⟨some 2,none,.mv (.c .nil)⟩]) (.seq (.reg [⟨some 3,none,.mv (.c .nil)⟩]) (.seq (.seq (.reg [⟨some 6,none,.fa 0 (.t 1)⟩,⟨some 7,none,.ld none (.t 6)⟩,⟨some 8,none,.fa 1 (.t 1)⟩,⟨some 9,none,.ld none (.t 8)⟩,⟨some 10,none,.build [(.i .i64 0),(.i .i64 0)] [(0,1,(.t 7)),(1,1,(.t 9))]⟩,⟨some 11,none,.fa 1 (.t 1)⟩,⟨some 12,none,.ld none (.t 11)⟩,⟨some 13,none,.fa 2 (.t 1)⟩,⟨some 14,none,.ld none (.t 13)⟩,⟨some 15,none,.build [(.i .i64 0),(.i .i64 0)] [(0,1,(.t 12)),(1,1,(.t 14))]⟩,⟨some 16,none,.fa 2 (.t 1)⟩,⟨some 17,none,.ld none (.t 16)⟩,
 ⟨some 18,none,.fa 0 (.t 1)⟩,⟨some 19,none,.ld none (.t 18)⟩,⟨some 20,none,.build [(.i .i64 0),(.i .i64 0)] [(0,1,(.t 17)),(1,1,(.t 19))]⟩,⟨some 21,none,.build [(.i .i64 0),(.i .i64 0),(.i .i64 0),(.i .i64 0),(.i .i64 0),(.i .i64 0)] [(0,2,(.t 10)),(2,2,(.t 15)),(4,2,(.t 20))]⟩,⟨some 22,none,.mv (.c (.i .i64 0))⟩]) (.blk 0 (.loop (.seq (.reg [⟨some 23,none,.bin .lss (.t 22) (.c (.i .i64 3))⟩]) (.seq (.ite (.t 23) .skip (.exit 0)) (.seq (.blk 1 (.seq (.reg [⟨some 24,none,.ix 3 2 (some 2) (.t 21) (.t 22)⟩,⟨some 5,none,.alloc [(.i .i64 0),(.i .i64 0)]⟩,⟨none,none,.st 2 (.t 5) (.t 24)⟩]) (.seq (.reg [
 ⟨some 25,none,.fa 0 (.t 5)⟩,⟨some 26,none,.ld none (.t 25)⟩,⟨some 27,none,.fa 1 (.t 5)⟩,⟨some 28,none,.ld none (.t 27)⟩,⟨some 29,none,.bin .neq (.t 26) (.t 28)⟩]) (.ite (.t 29) (.reg [⟨some 30,none,.mv (.t 3)⟩,⟨some 31,none,.ld (some 2) (.t 5)⟩,⟨some 32,none,.bsi 2 1 [(.i .i64 0),(.i .i64 0)] [(0,(.t 31))]⟩,⟨some 33,none,.app 2 16 (.t 30) (.t 32)⟩,⟨some 3,none,.mv (.t 33)⟩]) .skip)))) (.reg [⟨some 34,none,.bin .add (.t 22) (.c (.i .i64 1))⟩,⟨some 22,none,.mv (.t 34)⟩]))))))) (.seq (.reg [⟨some 35,none,.mv (.t 3)⟩,⟨some 2,none,.mv (.t 35)⟩]) .ret))))
def orient_edges.r:List Rr:=[.tmp 2]
abbrev orient_edges.n:Nat:=36
def ref11_Coherent.c (ref07_Check ref11_coherent:FuncId):C :=(.seq (.reg [⟨some 1,none,.box (.t 0)⟩,⟨some 2,none,.mv (.c (.b false))⟩]) (.seq (.reg [⟨some 3,none,.ld (some 2) (.t 1)⟩,⟨some 4,none,.call ref07_Check [.t 3]⟩,⟨some 5,none,.bin .eql (.t 4) (.c (.i .i64 0))⟩,⟨some 6,none,.mv (.t 5)⟩,⟨some 7,(some (6,true)),.fa 1 (.t 1)⟩,⟨some 8,(some (6,true)),.ld none (.t 7)⟩,⟨some 9,(some (6,true)),.call ref11_coherent [.t 8]⟩,⟨some 10,none,.pick (.t 6) (.t 9) (.c (.b false))⟩,⟨some 2,none,.mv (.t 10)⟩]) .ret))
def ref11_Coherent.r:List Rr:=[.tmp 2]
abbrev ref11_Coherent.n:Nat:=11
def ref11_coherent.c (ref11_uses:FuncId):C :=(.seq (.reg [⟨some 2,none,.mv (.c (.b false))⟩]) (.seq (.reg [⟨some 3,none,.mv (.c .nil)⟩]) (.seq (.seq (.reg [⟨some 4,none,.mv (.c (.i .i64 0))⟩]) (.blk 0 (.loop (.seq (.seq (.reg [⟨some 7,none,.mv (.t 4)⟩,⟨some 8,none,.mv (.t 0)⟩,⟨some 9,none,.len 0 (.t 8)⟩,⟨some 10,none,.bin .lss (.t 7) (.t 9)⟩]) (.ite (.t 10) .skip (.exit 0))) (.seq (.blk 1 (.reg [⟨some 13,none,.mv (.t 3)⟩,⟨some 14,none,.mv (.t 0)⟩,⟨some 15,none,.mv (.t 4)⟩,⟨some 16,none,.ia 3 (.t 14) (.t 15)⟩,⟨some 17,none,.ld (some 3) (.t 16)⟩,⟨some 18,none,.call ref11_uses [.t 17]⟩,⟨some 19,none,.app 2 16 (.t 13) (.t 18)⟩,
 ⟨some 3,none,.mv (.t 19)⟩])) (.reg [⟨some 11,none,.mv (.t 4)⟩,⟨some 12,none,.bin .add (.t 11) (.c (.i .i64 1))⟩,⟨some 4,none,.mv (.t 12)⟩])))))) (.seq (.seq (.reg [⟨some 5,none,.mv (.c (.i .i64 0))⟩]) (.blk 2 (.loop (.seq (.seq (.reg [⟨some 20,none,.mv (.t 5)⟩,⟨some 21,none,.mv (.t 3)⟩,⟨some 22,none,.len 0 (.t 21)⟩,⟨some 23,none,.bin .lss (.t 20) (.t 22)⟩]) (.ite (.t 23) .skip (.exit 2))) (.seq (.blk 3 (.seq (.reg [⟨some 6,none,.mv (.c (.i .i64 0))⟩]) (.blk 4 (.loop (.seq (.seq (.reg [⟨some 26,none,.mv (.t 6)⟩,⟨some 27,none,.mv (.t 5)⟩,⟨some 28,none,.bin .lss (.t 26) (.t 27)⟩]) (.ite (.t 28) .skip
 (.exit 4))) (.seq (.blk 5 (.seq (.drw [⟨some 31,none,.mv (.t 3)⟩,⟨some 32,none,.mv (.t 5)⟩,⟨some 33,none,.ia 2 (.t 31) (.t 32)⟩,⟨some 34,none,.ld (some 2) (.t 33)⟩,⟨some 35,none,.mv (.t 3)⟩,⟨some 36,none,.mv (.t 6)⟩,⟨some 37,none,.ia 2 (.t 35) (.t 36)⟩,⟨some 38,none,.ld (some 2) (.t 37)⟩,⟨some 39,none,.eqa [1,1] false (.t 34) (.t 38)⟩] []) (.ite (.t 39) (.seq (.reg [⟨some 2,none,.mv (.c (.b false))⟩]) .ret) .skip))) (.reg [⟨some 29,none,.mv (.t 6)⟩,⟨some 30,none,.bin .add (.t 29) (.c (.i .i64 1))⟩,⟨some 6,none,.mv (.t 30)⟩]))))))) (.reg [⟨some 24,none,.mv (.t 5)⟩,⟨some 25,none,.bin .add (.t 24) (.c (.i .i64 1))⟩,
 ⟨some 5,none,.mv (.t 25)⟩])))))) (.seq (.reg [⟨some 2,none,.mv (.c (.b true))⟩]) .ret)))))
def ref11_coherent.r:List Rr:=[.tmp 2]
abbrev ref11_coherent.n:Nat:=40
def ref11_uses.c:C :=(.seq (.reg [⟨some 1,none,.box (.t 0)⟩,⟨some 2,none,.mv (.c .nil)⟩]) (.seq (.reg [⟨some 6,none,.fa 0 (.t 1)⟩,⟨some 7,none,.ld none (.t 6)⟩,⟨some 8,none,.fa 1 (.t 1)⟩,⟨some 9,none,.ld none (.t 8)⟩,⟨some 10,none,.build [(.i .i64 0),(.i .i64 0)] [(0,1,(.t 7)),(1,1,(.t 9))]⟩,⟨some 11,none,.fa 1 (.t 1)⟩,⟨some 12,none,.ld none (.t 11)⟩,⟨some 13,none,.fa 2 (.t 1)⟩,⟨some 14,none,.ld none (.t 13)⟩,⟨some 15,none,.build [(.i .i64 0),(.i .i64 0)] [(0,1,(.t 12)),(1,1,(.t 14))]⟩,⟨some 16,none,.fa 2 (.t 1)⟩,⟨some 17,none,.ld none (.t 16)⟩,⟨some 18,none,.fa 0 (.t 1)⟩,⟨some 19,none,.ld none (.t 18)⟩,
 ⟨some 20,none,.build [(.i .i64 0),(.i .i64 0)] [(0,1,(.t 17)),(1,1,(.t 19))]⟩,⟨some 21,none,.bso 2 3 [(.i .i64 0),(.i .i64 0)] [(0,(.t 10)),(1,(.t 15)),(2,(.t 20))]⟩,⟨some 3,none,.mv (.t 21)⟩]) (.seq (.reg [⟨some 4,none,.mv (.c .nil)⟩]) (.seq (.seq (.reg [⟨some 5,none,.mv (.c (.i .i64 0))⟩]) (.blk 0 (.loop (.seq (.seq (.reg [⟨some 22,none,.mv (.t 5)⟩,⟨some 23,none,.mv (.t 3)⟩,⟨some 24,none,.len 0 (.t 23)⟩,⟨some 25,none,.bin .lss (.t 22) (.t 24)⟩]) (.ite (.t 25) .skip (.exit 0))) (.seq (.blk 1 (.seq (.drw [⟨some 28,none,.mv (.t 3)⟩,⟨some 29,none,.mv (.t 5)⟩,⟨some 30,none,.ia 2 (.t 28) (.t 29)⟩,
 ⟨some 31,none,.fa 0 (.t 30)⟩,⟨some 32,none,.ld none (.t 31)⟩,⟨some 33,none,.mv (.t 3)⟩,⟨some 34,none,.mv (.t 5)⟩,⟨some 35,none,.ia 2 (.t 33) (.t 34)⟩,⟨some 36,none,.fa 1 (.t 35)⟩,⟨some 37,none,.ld none (.t 36)⟩,⟨some 38,none,.bin .neq (.t 32) (.t 37)⟩] []) (.ite (.t 38) (.reg [⟨some 39,none,.mv (.t 4)⟩,⟨some 40,none,.mv (.t 3)⟩,⟨some 41,none,.mv (.t 5)⟩,⟨some 42,none,.ia 2 (.t 40) (.t 41)⟩,⟨some 43,none,.ld (some 2) (.t 42)⟩,⟨some 44,none,.bsi 2 1 [(.i .i64 0),(.i .i64 0)] [(0,(.t 43))]⟩,⟨some 45,none,.app 2 16 (.t 39) (.t 44)⟩,⟨some 4,none,.mv (.t 45)⟩]) .skip))) (.reg [⟨some 26,none,.mv (.t 5)⟩,
 ⟨some 27,none,.bin .add (.t 26) (.c (.i .i64 1))⟩,⟨some 5,none,.mv (.t 27)⟩])))))) (.seq (.reg [⟨some 46,none,.mv (.t 4)⟩,⟨some 2,none,.mv (.t 46)⟩]) .ret)))))
def ref11_uses.r:List Rr:=[.tmp 2]
abbrev ref11_uses.n:Nat:=47
def orient_Orient.c (mesh_Check slices_Clone_api_Tri_api_Tri orient_edges orient_both orient_Orient_1 orient_coherent slices_Clone_api_Vec_api_Vec:FuncId):C :=(.seq (.reg [⟨some 1,none,.box (.t 0)⟩,⟨some 2,none,.alloc [.nil,.nil]⟩,⟨some 3,none,.mv (.c (.i .i64 0))⟩,⟨some 4,none,.mv (.c (.i .i64 0))⟩]) (.seq (.seq (.reg [⟨some 22,none,.ld (some 2) (.t 1)⟩,⟨some 23,none,.call mesh_Check [.t 22]⟩,⟨some 5,none,.mv (.t 23)⟩]) (.seq (.reg [⟨some 24,none,.mv (.t 5)⟩,⟨some 25,none,.bin .neq (.t 24) (.c (.i .i64 0))⟩]) (.ite (.t 25) (.seq (.reg [⟨some 26,none,.build [.nil,.nil] []⟩,⟨some 27,none,.mv (.t 5)⟩,
 ⟨none,none,.st 2 (.t 2) (.t 26)⟩,⟨some 3,none,.mv (.c (.i .i64 0))⟩,⟨some 4,none,.mv (.t 27)⟩]) .ret) .skip))) (.seq (.reg [⟨some 28,none,.fa 1 (.t 1)⟩,⟨some 29,none,.ld none (.t 28)⟩,⟨some 30,none,.call slices_Clone_api_Tri_api_Tri [.t 29]⟩,⟨some 6,none,.alloc [.nil]⟩,⟨none,none,.st 1 (.t 6) (.t 30)⟩]) (.seq (.reg [⟨some 31,none,.mkm none⟩,⟨some 7,none,.mv (.t 31)⟩]) (.seq (.seq (.reg [⟨some 32,none,.ld none (.t 6)⟩,⟨some 33,none,.len 0 (.t 32)⟩,⟨some 34,none,.mv (.c (.i .i64 0))⟩]) (.blk 0 (.loop (.seq (.reg [⟨some 35,none,.bin .lss (.t 34) (.t 33)⟩]) (.seq (.ite (.t 35) .skip (.exit 0)) (.seq
 (.blk 1 (.seq (.reg [⟨some 36,none,.mv (.t 34)⟩,⟨some 37,none,.ia 3 (.t 32) (.t 34)⟩,⟨some 38,none,.ld (some 3) (.t 37)⟩,⟨some 9,none,.alloc [(.i .i64 0),(.i .i64 0),(.i .i64 0)]⟩,⟨some 8,none,.mv (.t 36)⟩,⟨none,none,.st 3 (.t 9) (.t 38)⟩]) (.seq (.reg [⟨some 39,none,.ld (some 3) (.t 9)⟩,⟨some 40,none,.call orient_edges [.t 39]⟩,⟨some 41,none,.len 0 (.t 40)⟩,⟨some 42,none,.mv (.c (.i .i64 0))⟩]) (.blk 2 (.loop (.seq (.reg [⟨some 43,none,.bin .lss (.t 42) (.t 41)⟩]) (.seq (.ite (.t 43) .skip (.exit 2)) (.seq (.blk 3 (.seq (.reg [⟨some 44,none,.ia 2 (.t 40) (.t 42)⟩,⟨some 45,none,.ld (some 2) (.t 44)⟩,
 ⟨some 11,none,.alloc [(.i .i64 0),(.i .i64 0)]⟩,⟨none,none,.st 2 (.t 11) (.t 45)⟩]) (.drw [⟨some 46,none,.mv (.t 7)⟩,⟨some 47,none,.ld (some 2) (.t 11)⟩,⟨some 48,none,.call orient_both [.t 47]⟩,⟨some 49,none,.mv (.t 7)⟩,⟨some 50,none,.ld (some 2) (.t 11)⟩,⟨some 51,none,.call orient_both [.t 50]⟩,⟨some 52,none,.lk [1,1] .nil false (.t 49) (.t 51)⟩,⟨some 53,none,.mv (.t 8)⟩,⟨some 54,none,.bsi 1 1 [(.i .i64 0)] [(0,(.t 53))]⟩,⟨some 55,none,.app 1 8 (.t 52) (.t 54)⟩,⟨none,none,.mup [1,1] (.t 46) (.t 48) (.t 55)⟩] [[],[],[],[],[2],[],[],[],[],[],[]]))) (.reg [⟨some 56,none,.bin .add (.t 42) (.c (.i .i64 1))⟩,
 ⟨some 42,none,.mv (.t 56)⟩]))))))))) (.reg [⟨some 57,none,.bin .add (.t 34) (.c (.i .i64 1))⟩,⟨some 34,none,.mv (.t 57)⟩]))))))) (.seq (.reg [⟨some 58,none,.ld none (.t 6)⟩,⟨some 59,none,.len 0 (.t 58)⟩,⟨some 60,none,.mks 1 1 [(.b false)] (.t 59)⟩,⟨some 12,none,.alloc [.nil]⟩,⟨none,none,.st 1 (.t 12) (.t 60)⟩]) (.seq (.reg [⟨some 13,none,.alloc [(.i .i64 0)]⟩,⟨none,none,.st 1 (.t 13) (.c (.i .i64 0))⟩]) (.seq (.reg [⟨some 14,none,.alloc [.nil]⟩]) (.seq (.reg [⟨some 61,none,.mkf orient_Orient_1 [.t 12,.t 6,.t 13,.t 14]⟩,⟨some 15,none,.mv (.t 61)⟩]) (.seq (.seq (.reg [⟨some 62,none,.ld none (.t 6)⟩,
 ⟨some 63,none,.len 0 (.t 62)⟩,⟨some 64,none,.mv (.c (.i .i64 0))⟩]) (.blk 4 (.loop (.seq (.reg [⟨some 65,none,.bin .lss (.t 64) (.t 63)⟩]) (.seq (.ite (.t 65) .skip (.exit 4)) (.seq (.blk 5 (.seq (.reg [⟨some 66,none,.mv (.t 64)⟩,⟨some 16,none,.mv (.t 66)⟩]) (.seq (.reg [⟨some 67,none,.mv (.t 15)⟩,⟨some 68,none,.mv (.t 16)⟩,⟨some 69,none,.build [(.i .i64 0),(.i .i64 0)] [(0,1,(.c (.i .i64 (-1)))),(1,1,(.c (.i .i64 (-1))))]⟩,⟨some 70,none,.callv (.t 67) [.t 68,.t 69]⟩]) (.blk 6 (.loop (.seq (.seq (.reg [⟨some 71,none,.ld none (.t 14)⟩,⟨some 72,none,.len 0 (.t 71)⟩,⟨some 73,none,.bin .gtr (.t 72) (.c (.i .i64 0))⟩])
 (.ite (.t 73) .skip (.exit 6))) (.blk 7 (.seq (.reg [⟨some 74,none,.ld none (.t 14)⟩,⟨some 75,none,.ia 1 (.t 74) (.c (.i .i64 0))⟩,⟨some 76,none,.ld none (.t 75)⟩,⟨some 17,none,.mv (.t 76)⟩]) (.seq (.reg [⟨some 77,none,.ld none (.t 14)⟩,⟨some 78,none,.slc 1 (.t 77) (some (.c (.i .i64 1))) none⟩,⟨none,none,.st 1 (.t 14) (.t 78)⟩]) (.seq (.reg [⟨some 79,none,.ld none (.t 6)⟩,⟨some 80,none,.mv (.t 17)⟩,⟨some 81,none,.ia 3 (.t 79) (.t 80)⟩,⟨some 82,none,.ld (some 3) (.t 81)⟩,⟨some 83,none,.call orient_edges [.t 82]⟩,⟨some 84,none,.len 0 (.t 83)⟩,⟨some 85,none,.mv (.c (.i .i64 0))⟩]) (.blk 8 (.loop
 (.seq (.reg [⟨some 86,none,.bin .lss (.t 85) (.t 84)⟩]) (.seq (.ite (.t 86) .skip (.exit 8)) (.seq (.blk 9 (.seq (.reg [⟨some 87,none,.ia 2 (.t 83) (.t 85)⟩,⟨some 88,none,.ld (some 2) (.t 87)⟩,⟨some 19,none,.alloc [(.i .i64 0),(.i .i64 0)]⟩,⟨none,none,.st 2 (.t 19) (.t 88)⟩]) (.seq (.reg [⟨some 89,none,.mv (.t 7)⟩,⟨some 90,none,.ld (some 2) (.t 19)⟩,⟨some 91,none,.call orient_both [.t 90]⟩,⟨some 92,none,.lk [1,1] .nil false (.t 89) (.t 91)⟩,⟨some 93,none,.len 0 (.t 92)⟩,⟨some 94,none,.mv (.c (.i .i64 0))⟩]) (.blk 10 (.loop (.seq (.reg [⟨some 95,none,.bin .lss (.t 94) (.t 93)⟩]) (.seq (.ite (.t 95)
 .skip (.exit 10)) (.seq (.blk 11 (.seq (.reg [⟨some 96,none,.ia 1 (.t 92) (.t 94)⟩,⟨some 97,none,.ld none (.t 96)⟩,⟨some 21,none,.mv (.t 97)⟩]) (.reg [⟨some 98,none,.mv (.t 15)⟩,⟨some 99,none,.mv (.t 21)⟩,⟨some 100,none,.ld (some 2) (.t 19)⟩,⟨some 101,none,.callv (.t 98) [.t 99,.t 100]⟩]))) (.reg [⟨some 102,none,.bin .add (.t 94) (.c (.i .i64 1))⟩,⟨some 94,none,.mv (.t 102)⟩]))))))))) (.reg [⟨some 103,none,.bin .add (.t 85) (.c (.i .i64 1))⟩,⟨some 85,none,.mv (.t 103)⟩])))))))))))))))) (.reg [⟨some 104,none,.bin .add (.t 64) (.c (.i .i64 1))⟩,⟨some 64,none,.mv (.t 104)⟩]))))))) (.seq (.seq (.reg [
 ⟨some 105,none,.ld none (.t 6)⟩,⟨some 106,none,.call orient_coherent [.t 105]⟩,⟨some 107,none,.un .not (.t 106)⟩]) (.ite (.t 107) (.seq (.reg [⟨some 108,none,.build [.nil,.nil] []⟩,⟨none,none,.st 2 (.t 2) (.t 108)⟩,⟨some 3,none,.mv (.c (.i .i64 0))⟩,⟨some 4,none,.mv (.c (.i .i64 13))⟩]) .ret) .skip)) (.seq (.drw [⟨some 109,none,.fa 0 (.t 1)⟩,⟨some 110,none,.ld none (.t 109)⟩,⟨some 111,none,.call slices_Clone_api_Vec_api_Vec [.t 110]⟩,⟨some 112,none,.ld none (.t 6)⟩,⟨some 113,none,.build [.nil,.nil] [(0,1,(.t 111)),(1,1,(.t 112))]⟩,⟨some 114,none,.ld none (.t 13)⟩,⟨none,none,.st 2 (.t 2) (.t 113)⟩,
 ⟨some 3,none,.mv (.t 114)⟩,⟨some 4,none,.mv (.c (.i .i64 0))⟩] [[],[],[],[2],[],[2],[5],[],[]]) .ret))))))))))))
def orient_Orient.r:List Rr:=[.cell 2 (some 2),.tmp 3,.tmp 4]
abbrev orient_Orient.n:Nat:=115
def orient_both.c:C :=(.seq (.reg [⟨some 1,none,.box (.t 0)⟩,⟨some 2,none,.alloc [(.i .i64 0),(.i .i64 0)]⟩]) (.seq (.reg [⟨some 3,none,.fa 0 (.t 1)⟩,⟨some 4,none,.ld none (.t 3)⟩,⟨some 5,none,.fa 1 (.t 1)⟩,⟨some 6,none,.ld none (.t 5)⟩,⟨some 7,none,.mn [.t 4,.t 6]⟩,⟨some 8,none,.fa 0 (.t 1)⟩,⟨some 9,none,.ld none (.t 8)⟩,⟨some 10,none,.fa 1 (.t 1)⟩,⟨some 11,none,.ld none (.t 10)⟩,⟨some 12,none,.mx [.t 9,.t 11]⟩,⟨some 13,none,.build [(.i .i64 0),(.i .i64 0)] [(0,1,(.t 7)),(1,1,(.t 12))]⟩,⟨none,none,.st 2 (.t 2) (.t 13)⟩]) .ret))
def orient_both.r:List Rr:=[.cell 2 (some 2)]
abbrev orient_both.n:Nat:=14
def orient_Orient_1.c (orient_edges slices_Contains_api_Edge_api_Edge orient_reversed:FuncId):C :=(.seq (.reg [⟨some 7,none,.box (.t 1)⟩]) (.seq (.seq (.reg [⟨some 8,none,.ld none (.t 2)⟩,⟨some 9,none,.mv (.t 0)⟩,⟨some 10,none,.ia 1 (.t 8) (.t 9)⟩,⟨some 11,none,.ld none (.t 10)⟩]) (.ite (.t 11) .ret .skip)) (.seq (.reg [⟨some 12,none,.ld none (.t 2)⟩,⟨some 13,none,.mv (.t 0)⟩,⟨some 14,none,.ia 1 (.t 12) (.t 13)⟩,⟨none,none,.st 1 (.t 14) (.c (.b true))⟩]) (.seq (.seq (.drw [⟨some 15,none,.ld none (.t 3)⟩,⟨some 16,none,.mv (.t 0)⟩,⟨some 17,none,.ia 3 (.t 15) (.t 16)⟩,⟨some 18,none,.ld (some 3) (.t 17)⟩,
 ⟨some 19,none,.call orient_edges [.t 18]⟩,⟨some 20,none,.ld (some 2) (.t 7)⟩,⟨some 21,none,.call slices_Contains_api_Edge_api_Edge [.t 19,.t 20]⟩] [[],[],[],[],[],[4],[]]) (.ite (.t 21) (.seq (.drw [⟨some 22,none,.ld none (.t 3)⟩,⟨some 23,none,.mv (.t 0)⟩,⟨some 24,none,.ld none (.t 3)⟩,⟨some 25,none,.mv (.t 0)⟩,⟨some 26,none,.ia 3 (.t 24) (.t 25)⟩,⟨some 27,none,.ld (some 3) (.t 26)⟩,⟨some 28,none,.call orient_reversed [.t 27]⟩,⟨some 29,none,.ia 3 (.t 22) (.t 23)⟩,⟨none,none,.st 3 (.t 29) (.t 28)⟩] [[],[],[],[],[],[],[0],[],[]]) (.reg [⟨some 30,none,.ld none (.t 4)⟩,⟨some 31,none,.bin .add (.t 30) (.c (.i .i64 1))⟩,
 ⟨none,none,.st 1 (.t 4) (.t 31)⟩])) .skip)) (.reg [⟨some 32,none,.ld none (.t 5)⟩,⟨some 33,none,.mv (.t 0)⟩,⟨some 34,none,.bsi 1 1 [(.i .i64 0)] [(0,(.t 33))]⟩,⟨some 35,none,.app 1 8 (.t 32) (.t 34)⟩,⟨none,none,.st 1 (.t 5) (.t 35)⟩])))))
def orient_Orient_1.r:List Rr:=[]
abbrev orient_Orient_1.n:Nat:=36
def slices_Contains_api_Edge_api_Edge.c (slices_Index_api_Edge_api_Edge:FuncId):C :=(.seq (.reg [⟨some 3,none,.box (.t 1)⟩,⟨some 4,none,.mv (.c (.b false))⟩]) (.seq (.reg [⟨some 5,none,.mv (.t 0)⟩,⟨some 6,none,.ld (some 2) (.t 3)⟩,⟨some 7,none,.call slices_Index_api_Edge_api_Edge [.t 5,.t 6]⟩,⟨some 8,none,.bin .geq (.t 7) (.c (.i .i64 0))⟩,⟨some 4,none,.mv (.t 8)⟩]) .ret))
def slices_Contains_api_Edge_api_Edge.r:List Rr:=[.tmp 4]
abbrev slices_Contains_api_Edge_api_Edge.n:Nat:=9
def slices_Index_api_Edge_api_Edge.c:C :=(.seq (.reg [⟨some 3,none,.box (.t 1)⟩,⟨some 4,none,.mv (.c (.i .i64 0))⟩]) (.seq (.seq (.reg [⟨some 6,none,.mv (.t 0)⟩,⟨some 7,none,.len 0 (.t 6)⟩,⟨some 8,none,.mv (.c (.i .i64 0))⟩]) (.blk 0 (.loop (.seq (.reg [⟨some 9,none,.bin .lss (.t 8) (.t 7)⟩]) (.seq (.ite (.t 9) .skip (.exit 0)) (.seq (.blk 1 (.seq (.reg [⟨some 10,none,.mv (.t 8)⟩,⟨some 5,none,.mv (.t 10)⟩]) (.seq (.drw [⟨some 11,none,.ld (some 2) (.t 3)⟩,⟨some 12,none,.mv (.t 0)⟩,⟨some 13,none,.mv (.t 5)⟩,⟨some 14,none,.ia 2 (.t 12) (.t 13)⟩,⟨some 15,none,.ld (some 2) (.t 14)⟩,⟨some 16,none,.eqa [1,1] false (.t 11) (.t 15)⟩] [])
 (.ite (.t 16) (.seq (.reg [⟨some 17,none,.mv (.t 5)⟩,⟨some 4,none,.mv (.t 17)⟩]) .ret) .skip)))) (.reg [⟨some 18,none,.bin .add (.t 8) (.c (.i .i64 1))⟩,⟨some 8,none,.mv (.t 18)⟩]))))))) (.seq (.reg [⟨some 4,none,.mv (.c (.i .i64 (-1)))⟩]) .ret)))
def slices_Index_api_Edge_api_Edge.r:List Rr:=[.tmp 4]
abbrev slices_Index_api_Edge_api_Edge.n:Nat:=19
def orient_reversed.c:C :=(.seq (.reg [⟨some 1,none,.box (.t 0)⟩,⟨some 2,none,.alloc [(.i .i64 0),(.i .i64 0),(.i .i64 0)]⟩]) (.seq (.reg [⟨some 3,none,.fa 0 (.t 1)⟩,⟨some 4,none,.ld none (.t 3)⟩,⟨some 5,none,.fa 2 (.t 1)⟩,⟨some 6,none,.ld none (.t 5)⟩,⟨some 7,none,.fa 1 (.t 1)⟩,⟨some 8,none,.ld none (.t 7)⟩,⟨some 9,none,.build [(.i .i64 0),(.i .i64 0),(.i .i64 0)] [(0,1,(.t 4)),(1,1,(.t 6)),(2,1,(.t 8))]⟩,⟨none,none,.st 3 (.t 2) (.t 9)⟩]) .ret))
def orient_reversed.r:List Rr:=[.cell 2 (some 3)]
abbrev orient_reversed.n:Nat:=10
end Go.Abs
set_option linter.unusedVariables false
set_option linter.unusedSimpArgs false
namespace Go.Abs
def schV:List Sch:=[.i .i64,.i .i64,.i .i64]
def schM:List Sch:=[.sl schV,.sl schV]
theorem v3_of {e:List V} (h:okL schV e):∃v:V3,e=v.cs:=by
 simp only[schV,okL,Sch.ok]at h
 obtain⟨v1,r1,rfl,⟨x,rfl,_⟩,v2,r2,rfl,⟨y,rfl,_⟩,v3,r3,rfl,⟨z,rfl,_⟩,rfl⟩:=h
 exact⟨⟨x,y,z⟩,rfl⟩
theorem t3_of {e:List V} (h:okL schV e):∃v:T3,e=v.cs:=by
 simp only[schV,okL,Sch.ok]at h
 obtain⟨v1,r1,rfl,⟨x,rfl,_⟩,v2,r2,rfl,⟨y,rfl,_⟩,v3,r3,rfl,⟨z,rfl,_⟩,rfl⟩:=h
 exact⟨⟨x,y,z⟩,rfl⟩
theorem list_of {α:Type} {f:α->List V} {el:List Sch} (hf:∀e,okL el e->∃v,e=f v):∀els:List (List V),(∀e∈els,okL el e)->∃l:List α,els=l.map f
 | [],_=>⟨[],rfl⟩
 | e::els,h=>by
   obtain⟨l,rfl⟩:=list_of hf els (λe he=>h e (by simp[he]))
   obtain⟨v,rfl⟩:=hf e (h e (by simp))
   exact⟨v::l,rfl⟩
theorem par_m {ps:List (Bool × List Sch)} {us:List V} (h:B5 ((true,schM)::ps) us):∃(m:Mesh) (r:List V),us=m.enc::r/\(m.verts.length<=9223372036854775807/\m.tris.length<=9223372036854775807)/\B5 ps r:=by
 simp only[B5,okPar]at h
 obtain⟨v,r,rfl,⟨cs,rfl,hc⟩,hr⟩:=h
 simp only[schM,okL,Sch.ok]at hc
 obtain⟨v1,r1,rfl,⟨els,rfl,hl,he⟩,v2,r2,rfl,⟨els2,rfl,hl2,he2⟩,rfl⟩:=hc
 obtain⟨vs,rfl⟩:=list_of (λe=>v3_of) els he
 obtain⟨ts,rfl⟩:=list_of (λe=>t3_of) els2 he2
 exact⟨⟨vs,ts⟩,r,rfl,⟨by simpa using hl,by simpa using hl2⟩,hr⟩
end Go.Abs
set_option linter.unusedVariables false
set_option linter.unusedSimpArgs false
namespace Go.Abs
structure P2 where
 x:Int
 y:Int
deriving DecidableEq
def P2.cs (p:P2):List V:=[.i .i64 p.x,.i .i64 p.y]
def P2.enc (p:P2):V:=.a p.cs
def psV (l:List P2):V:=.l 2 (l.map P2.cs)
theorem pcs (p:P2):p.cs=[.i .i64 p.x,.i .i64 p.y]:=Rfl rfl
def Zc:Mesh:=⟨[],[]⟩
def V3.add (a b:V3):V3:=⟨a.x+b.x,a.y+b.y,a.z+b.z⟩
end Go.Abs
set_option linter.unusedVariables false
set_option linter.unusedSimpArgs false
namespace Go.Abs
theorem entsOf_mp (h:List O) (id:Nat):Ym h (.mp id)=match h[id]? with | some (.mp es)=>some es | some (.md es)=>some es | _=>none:=Rfl rfl
attribute [go_sem] entsOf_mp V.isT
def asE (p:P2 × Int):V × V:=(p.1.enc,.i .i64 p.2)
def fnd (e:P2):List (P2 × Int)->Option (Nat × Int)
 | []=>none
 | (k,n)::r=>if e=k then some (0,n) else (fnd e r).map λp=>(p.1+1,p.2)
theorem veq2 (a b:P2):Ze [1,1] a.enc.cells b.enc.cells=some (decide (a=b)):=by
 cases a;cases b
 simp[Ze,P2.enc,P2.cs,V.cells,Bt,P2.mk.injEq]
 rw[Bool.eq_iff_iff];simp
theorem findE_as (e:P2):∀L:List (P2 × Int),Qm [1,1] e.enc (L.map asE)=some ((fnd e L).map λp=>(p.1,.i .i64 p.2))
 | []=>rfl
 | (k,n)::r=>by
   simp only[List.map_cons,asE,Qm,fnd]
   rw[if_pos (by rfl),veq2]
   by_cases h:e=k
   ·simp[h]
   ·simp only[h,decide_false,if_false]
    have:=findE_as e r
    rw[this]
    cases fnd e r<;>rfl
theorem fnd_none {e:P2}:∀{L:List (P2 × Int)},fnd e L=none↔∀p∈L,p.1≠e
 | []=>by simp[fnd]
 | (k,n)::r=>by
   simp only[fnd]
   by_cases h:e=k
   ·simp[h]
   ·have h':¬ k=e:=λhh=>h hh.symm
    rw[if_neg h,Option.map_eq_none_iff,fnd_none (L:=r)]
    simp[h']
theorem fnd_app {e:P2} {n:Int}:∀{L:List (P2 × Int)},fnd e L=none->fnd e (L++[(e,n)])=some (L.length,n)
 | [],_=>by simp[fnd]
 | (k,m)::r,h=>by
   simp only[fnd]at h
   by_cases hk:e=k
   ·simp[hk]at h
   ·simp only[hk,if_false,Option.map_eq_none_iff]at h
    simp[fnd,hk,fnd_app h]
theorem U3 {e:P2} {i:Nat} {n n':Int}:∀{L:List (P2 × Int)},fnd e L=some (i,n)->L[i]?=some (e,n)/\fnd e (L.set i (e,n'))=some (i,n')
 | [],h=>by simp[fnd]at h
 | (k,m)::r,h=>by
   simp only[fnd]at h
   by_cases hk:e=k
   ·simp[hk]at h;obtain⟨rfl,rfl⟩:=h;simp[fnd,hk]
   ·simp only[hk,if_false,Option.map_eq_some_iff,Prod.mk.injEq]at h
    obtain⟨⟨j,n1⟩,hj,rfl,rfl⟩:=h
    have:=U3 (n':=n') hj
    simp[fnd,hk,this.1,this.2]
end Go.Abs
set_option linter.unusedVariables false
set_option linter.unusedSimpArgs false
namespace Go.Abs
def Kp (t:T3):List P2:=[⟨t.a,t.b⟩,⟨t.b,t.c⟩,⟨t.c,t.a⟩]
def Qw (t:T3) (k:Nat):List P2:=((Kp t).take k).filter λe=>decide (e.x≠e.y)
def Q2 (t:T3):List P2:=Qw t 3
def Ye (P:Program) (f:FuncId):Prop:=∀t:T3,CallIs P f [t.enc] (psV (Q2 t))
theorem p2_isD (p:P2):(∀y∈p.cs,y.isD=true)=True:=by simp[P2.cs,V.isD]
theorem Wd (t:P2) (n:Nat):(∀y∈t.cs,y.cl n=true)=True:=by simp[P2.cs,V.cl,V.cl1,V.cl0]
theorem edgesK_0 (t:T3):Qw t 0=[]:=rfl
theorem filt1 (x y:Int) (l:List P2):(l++[(⟨x,y⟩:P2)]).filter (λe=>decide (e.x≠e.y))=if x=y then l.filter (λe=>decide (e.x≠e.y)) else l.filter (λe=>decide (e.x≠e.y))++[⟨x,y⟩]:=by
 rw[List.filter_append]
 by_cases h:x=y<;>simp[h]
theorem edgesK_1 (t:T3):Qw t 1=if t.a=t.b then Qw t 0 else Qw t 0++[⟨t.a,t.b⟩]:=filt1 t.a t.b []
theorem edgesK_2 (t:T3):Qw t 2=if t.b=t.c then Qw t 1 else Qw t 1++[⟨t.b,t.c⟩]:=filt1 t.b t.c [⟨t.a,t.b⟩]
theorem edgesK_3 (t:T3):Qw t 3=if t.c=t.a then Qw t 2 else Qw t 2++[⟨t.c,t.a⟩]:=filt1 t.c t.a [⟨t.a,t.b⟩,⟨t.b,t.c⟩]
theorem Qz (t:T3) (k:Nat):(Qw t k).length<=3:=by
 refine Nat.le_trans (List.length_filter_le _ _) ?_
 simp[Kp];omega
section
variable {P:Program} (hm:P.follows .mixedOrders=true)
include hm
set_option maxHeartbeats 4000000 in
theorem Ub {f:FuncId} (hf:Q9 P f orient_edges.c orient_edges.r orient_edges.n):Ye P f:=by
 intro t
 refine PureC.is (Q7 hm hf (Nat.le_of_ble_eq_true rfl) ?_) rfl
 unfold orient_edges.c
 simp[go_sem,T3.enc,T3.cs]
 have w1:IntKind.i64.wrap 1=1:=rfl
 have w2:IntKind.i64.wrap 2=2:=rfl
 have w3:IntKind.i64.wrap 3=3:=rfl
 refine Qq [.t 3 2] (α:=Nat) (λk=>k<=3)
  (λk=>⟨[(3,.own 1 ((Qw t k).length+1) 0 (Qw t k).length),(21,.a [.i .i64 t.a,.i .i64 t.b,.i .i64 t.b,.i .i64 t.c,.i .i64 t.c,.i .i64 t.a]),(22,.i .i64 k)],
   [.dead,.arr ((Qw t k).length+1) 2 ((Qw t k).map P2.cs)]⟩)
  (λk=>3-k) 0 (by omega) ?_ ?_
 ·simp[go_sem,edgesK_0]
 ·intro k hk
  have hl:=Qz t k
  by_cases h3:k=3
  ·subst h3
   simp[go_sem,orient_edges.r,psV,Q2,p2_isD]
  ·have:k=0∨k=1∨k=2:=by omega
   rcases this with rfl | rfl | rfl
   ·have hs:=edgesK_1 t
    generalize hE:Qw t 0=E0 at hs hl
    by_cases h:t.a=t.b
    ·rw[if_pos h]at hs
     simp[go_sem,h,w1,w2,w3]
     exact⟨1,by omega,by omega,by simp[hs],by simp[hs],by simp[Wd]⟩
    ·rw[if_neg h]at hs
     simp[go_sem,h,w1,w2,w3]
     exact⟨by omega,1,by omega,by omega,by simp[hs],by simp[hs,pcs,or_imp,forall_and,V.cl,V.cl1,V.cl0]⟩
   ·have hs:=edgesK_2 t
    generalize hE:Qw t 1=E0 at hs hl
    by_cases h:t.b=t.c
    ·rw[if_pos h]at hs
     simp[go_sem,h,w1,w2,w3]
     exact⟨2,by omega,by omega,by simp[hs],by simp[hs],by simp[Wd]⟩
    ·rw[if_neg h]at hs
     simp[go_sem,h,w1,w2,w3]
     exact⟨by omega,2,by omega,by omega,by simp[hs],by simp[hs,pcs,or_imp,forall_and,V.cl,V.cl1,V.cl0]⟩
   ·have hs:=edgesK_3 t
    generalize hE:Qw t 2=E0 at hs hl
    by_cases h:t.c=t.a
    ·rw[if_pos h]at hs
     simp[go_sem,h,w1,w2,w3]
     exact⟨3,by omega,by omega,by simp[hs],by simp[hs],by simp[Wd]⟩
    ·rw[if_neg h]at hs
     simp[go_sem,h,w1,w2,w3]
     exact⟨by omega,3,by omega,by omega,by simp[hs],by simp[hs,pcs,or_imp,forall_and,V.cl,V.cl1,V.cl0]⟩
end
end Go.Abs
