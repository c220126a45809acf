/- Part of the library on which the proof stands: an abstract machine, its values and its soundness against the model; or what functions of the program do to such values. -/
import Derived.Test.YtcdjgldeiaiaoaaGreatGoToB
set_option linter.unusedVariables false
set_option linter.unusedSimpArgs false
namespace Go.Abs
def holes_Fan.c:C :=(.seq (.reg [⟨some 2,none,.mv (.c .nil)⟩]) (.seq (.reg [⟨some 3,none,.mv (.c .nil)⟩]) (.seq (.seq (.reg [⟨some 4,none,.mv (.c (.i .i64 1))⟩]) (.blk 0 (.loop (.seq (.seq (.reg [⟨some 5,none,.mv (.t 4)⟩,⟨some 6,none,.bin .add (.t 5) (.c (.i .i64 1))⟩,⟨some 7,none,.mv (.t 0)⟩,⟨some 8,none,.len 0 (.t 7)⟩,⟨some 9,none,.bin .lss (.t 6) (.t 8)⟩]) (.ite (.t 9) .skip (.exit 0))) (.seq (.blk 1 (.drw [⟨some 12,none,.mv (.t 3)⟩,⟨some 13,none,.mv (.t 0)⟩,⟨some 14,none,.ia 1 (.t 13) (.c (.i .i64 0))⟩,⟨some 15,none,.ld none (.t 14)⟩,⟨some 16,none,.mv (.t 0)⟩,⟨some 17,none,.mv (.t 4)⟩,⟨some 18,none,.ia 1 (.t 16) (.t 17)⟩,
 ⟨some 19,none,.ld none (.t 18)⟩,⟨some 20,none,.mv (.t 0)⟩,⟨some 21,none,.mv (.t 4)⟩,⟨some 22,none,.bin .add (.t 21) (.c (.i .i64 1))⟩,⟨some 23,none,.ia 1 (.t 20) (.t 22)⟩,⟨some 24,none,.ld none (.t 23)⟩,⟨some 25,none,.build [(.i .i64 0),(.i .i64 0),(.i .i64 0)] [(0,1,(.t 15)),(1,1,(.t 19)),(2,1,(.t 24))]⟩,⟨some 26,none,.bsi 3 1 [(.i .i64 0),(.i .i64 0),(.i .i64 0)] [(0,(.t 25))]⟩,⟨some 27,none,.app 3 24 (.t 12) (.t 26)⟩,⟨some 3,none,.mv (.t 27)⟩] [])) (.reg [⟨some 10,none,.mv (.t 4)⟩,⟨some 11,none,.bin .add (.t 10) (.c (.i .i64 1))⟩,⟨some 4,none,.mv (.t 11)⟩])))))) (.seq (.reg [⟨some 28,none,.mv (.t 3)⟩,
 ⟨some 2,none,.mv (.t 28)⟩]) .ret))))
def holes_Fan.r:List Rr:=[.tmp 2]
abbrev holes_Fan.n:Nat:=29
def ref12_Fan.c:C :=(.seq (.reg [⟨some 2,none,.mv (.c .nil)⟩]) (.seq (.reg [⟨some 3,none,.mv (.c .nil)⟩]) (.seq (.seq (.reg [⟨some 4,none,.mv (.c (.i .i64 1))⟩]) (.blk 0 (.loop (.seq (.seq (.reg [⟨some 5,none,.mv (.t 4)⟩,⟨some 6,none,.bin .add (.t 5) (.c (.i .i64 1))⟩,⟨some 7,none,.mv (.t 0)⟩,⟨some 8,none,.len 0 (.t 7)⟩,⟨some 9,none,.bin .lss (.t 6) (.t 8)⟩]) (.ite (.t 9) .skip (.exit 0))) (.seq (.blk 1 (.drw [⟨some 12,none,.mv (.t 3)⟩,⟨some 13,none,.mv (.t 0)⟩,⟨some 14,none,.ia 1 (.t 13) (.c (.i .i64 0))⟩,⟨some 15,none,.ld none (.t 14)⟩,⟨some 16,none,.mv (.t 0)⟩,⟨some 17,none,.mv (.t 4)⟩,⟨some 18,none,.ia 1 (.t 16) (.t 17)⟩,
 ⟨some 19,none,.ld none (.t 18)⟩,⟨some 20,none,.mv (.t 0)⟩,⟨some 21,none,.mv (.t 4)⟩,⟨some 22,none,.bin .add (.t 21) (.c (.i .i64 1))⟩,⟨some 23,none,.ia 1 (.t 20) (.t 22)⟩,⟨some 24,none,.ld none (.t 23)⟩,⟨some 25,none,.build [(.i .i64 0),(.i .i64 0),(.i .i64 0)] [(0,1,(.t 15)),(1,1,(.t 19)),(2,1,(.t 24))]⟩,⟨some 26,none,.bsi 3 1 [(.i .i64 0),(.i .i64 0),(.i .i64 0)] [(0,(.t 25))]⟩,⟨some 27,none,.app 3 24 (.t 12) (.t 26)⟩,⟨some 3,none,.mv (.t 27)⟩] [])) (.reg [⟨some 10,none,.mv (.t 4)⟩,⟨some 11,none,.bin .add (.t 10) (.c (.i .i64 1))⟩,⟨some 4,none,.mv (.t 11)⟩])))))) (.seq (.reg [⟨some 28,none,.mv (.t 3)⟩,
 ⟨some 2,none,.mv (.t 28)⟩]) .ret))))
def ref12_Fan.r:List Rr:=[.tmp 2]
abbrev ref12_Fan.n:Nat:=29
def holes_Fill.c (mesh_Check topo_Loops slices_Clone_api_Vec_api_Vec slices_Clone_api_Tri_api_Tri holes_Fan holes_extend:FuncId):C :=(.seq (.reg [⟨some 1,none,.box (.t 0)⟩,⟨some 2,none,.alloc [.nil,.nil]⟩,⟨some 3,none,.mv (.c (.i .i64 0))⟩,⟨some 4,none,.mv (.c (.i .i64 0))⟩]) (.seq (.seq (.reg [⟨some 11,none,.ld (some 2) (.t 1)⟩,⟨some 12,none,.call mesh_Check [.t 11]⟩,⟨some 5,none,.mv (.t 12)⟩]) (.seq (.reg [⟨some 13,none,.mv (.t 5)⟩,⟨some 14,none,.bin .neq (.t 13) (.c (.i .i64 0))⟩]) (.ite (.t 14) (.seq (.reg [⟨some 15,none,.build [.nil,.nil] []⟩,⟨some 16,none,.mv (.t 5)⟩,⟨none,none,.st 2 (.t 2) (.t 15)⟩,
 ⟨some 3,none,.mv (.c (.i .i64 0))⟩,⟨some 4,none,.mv (.t 16)⟩]) .ret) .skip))) (.seq (.reg [⟨some 18,none,.ld (some 2) (.t 1)⟩,⟨some 19,none,.call topo_Loops [.t 18]⟩,⟨some 17,none,.mv (.t 19)⟩,⟨some 20,none,.ext (.t 17) 0⟩,⟨some 21,none,.ext (.t 17) 1⟩,⟨some 6,none,.mv (.t 20)⟩,⟨some 7,none,.mv (.t 21)⟩]) (.seq (.seq (.reg [⟨some 22,none,.mv (.t 7)⟩,⟨some 23,none,.bin .neq (.t 22) (.c (.i .i64 0))⟩]) (.ite (.t 23) (.seq (.reg [⟨some 24,none,.build [.nil,.nil] []⟩,⟨some 25,none,.mv (.t 7)⟩,⟨none,none,.st 2 (.t 2) (.t 24)⟩,⟨some 3,none,.mv (.c (.i .i64 0))⟩,⟨some 4,none,.mv (.t 25)⟩]) .ret) .skip))
 (.seq (.drw [⟨some 26,none,.fa 0 (.t 1)⟩,⟨some 27,none,.ld none (.t 26)⟩,⟨some 28,none,.call slices_Clone_api_Vec_api_Vec [.t 27]⟩,⟨some 29,none,.fa 1 (.t 1)⟩,⟨some 30,none,.ld none (.t 29)⟩,⟨some 31,none,.call slices_Clone_api_Tri_api_Tri [.t 30]⟩,⟨some 32,none,.build [.nil,.nil] [(0,1,(.t 28)),(1,1,(.t 31))]⟩,⟨some 8,none,.alloc [.nil,.nil]⟩,⟨none,none,.st 2 (.t 8) (.t 32)⟩] [[],[],[],[2],[2],[],[],[],[]]) (.seq (.seq (.reg [⟨some 33,none,.mv (.t 6)⟩,⟨some 34,none,.len 0 (.t 33)⟩,⟨some 35,none,.mv (.c (.i .i64 0))⟩]) (.blk 0 (.loop (.seq (.reg [⟨some 36,none,.bin .lss (.t 35) (.t 34)⟩]) (.seq
 (.ite (.t 36) .skip (.exit 0)) (.seq (.blk 1 (.seq (.reg [⟨some 37,none,.ia 1 (.t 33) (.t 35)⟩,⟨some 38,none,.ld none (.t 37)⟩,⟨some 10,none,.mv (.t 38)⟩]) (.seq (.reg [⟨some 39,none,.mv (.t 10)⟩,⟨some 40,none,.call holes_Fan [.t 39]⟩,⟨some 41,none,.call holes_extend [.t 8,.t 40]⟩,⟨some 42,none,.un .not (.t 41)⟩]) (.ite (.t 42) (.seq (.reg [⟨some 43,none,.build [.nil,.nil] []⟩,⟨none,none,.st 2 (.t 2) (.t 43)⟩,⟨some 3,none,.mv (.c (.i .i64 0))⟩,⟨some 4,none,.mv (.c (.i .i64 2))⟩]) .ret) .skip)))) (.reg [⟨some 44,none,.bin .add (.t 35) (.c (.i .i64 1))⟩,⟨some 35,none,.mv (.t 44)⟩]))))))) (.seq (.reg [
 ⟨some 45,none,.ld (some 2) (.t 8)⟩,⟨some 46,none,.mv (.t 6)⟩,⟨some 47,none,.len 0 (.t 46)⟩,⟨none,none,.st 2 (.t 2) (.t 45)⟩,⟨some 3,none,.mv (.t 47)⟩,⟨some 4,none,.mv (.c (.i .i64 0))⟩]) .ret)))))))
def holes_Fill.r:List Rr:=[.cell 2 (some 2),.tmp 3,.tmp 4]
abbrev holes_Fill.n:Nat:=48
def holes_extend.c:C :=(.seq (.reg [⟨some 4,none,.mv (.c (.b false))⟩]) (.seq (.seq (.reg [⟨some 5,none,.mv (.t 0)⟩,⟨some 6,none,.nck (.t 5)⟩,⟨some 7,none,.fa 1 (.t 6)⟩,⟨some 8,none,.ld none (.t 7)⟩,⟨some 9,none,.len 0 (.t 8)⟩,⟨some 10,none,.mv (.t 1)⟩,⟨some 11,none,.len 0 (.t 10)⟩,⟨some 12,none,.bin .add (.t 9) (.t 11)⟩,⟨some 13,none,.bin .gtr (.t 12) (.c (.i .i64 4096))⟩]) (.ite (.t 13) (.seq (.reg [⟨some 4,none,.mv (.c (.b false))⟩]) .ret) .skip)) (.seq (.reg [⟨some 14,none,.mv (.t 0)⟩,⟨some 15,none,.mv (.t 0)⟩,⟨some 16,none,.nck (.t 15)⟩,⟨some 17,none,.fa 1 (.t 16)⟩,⟨some 18,none,.ld none (.t 17)⟩,
 ⟨some 19,none,.mv (.t 1)⟩,⟨some 20,none,.app 3 24 (.t 18) (.t 19)⟩,⟨some 21,none,.nck (.t 14)⟩,⟨some 22,none,.fa 1 (.t 21)⟩,⟨none,none,.st 1 (.t 22) (.t 20)⟩]) (.seq (.reg [⟨some 4,none,.mv (.c (.b true))⟩]) .ret))))
def holes_extend.r:List Rr:=[.tmp 4]
abbrev holes_extend.n:Nat:=23
def topo_Loops.c (mesh_Check topo_counted topo_Boundary topo_reverse:FuncId):C :=(.seq (.reg [⟨some 1,none,.box (.t 0)⟩,⟨some 2,none,.mv (.c .nil)⟩,⟨some 3,none,.mv (.c (.i .i64 0))⟩]) (.seq (.seq (.reg [⟨some 16,none,.ld (some 2) (.t 1)⟩,⟨some 17,none,.call mesh_Check [.t 16]⟩,⟨some 4,none,.mv (.t 17)⟩]) (.seq (.reg [⟨some 18,none,.mv (.t 4)⟩,⟨some 19,none,.bin .neq (.t 18) (.c (.i .i64 0))⟩]) (.ite (.t 19) (.seq (.reg [⟨some 20,none,.mv (.t 4)⟩,⟨some 2,none,.mv (.c .nil)⟩,⟨some 3,none,.mv (.t 20)⟩]) .ret) .skip))) (.seq (.reg [⟨some 21,none,.ld (some 2) (.t 1)⟩,⟨some 22,none,.call topo_counted [.t 21]⟩,
 ⟨some 5,none,.mv (.t 22)⟩]) (.seq (.reg [⟨some 23,none,.ld (some 2) (.t 1)⟩,⟨some 24,none,.call topo_Boundary [.t 23]⟩,⟨some 6,none,.mv (.t 24)⟩]) (.seq (.reg [⟨some 25,none,.mkm none⟩,⟨some 7,none,.mv (.t 25)⟩]) (.seq (.seq (.reg [⟨some 26,none,.mv (.t 6)⟩,⟨some 27,none,.len 0 (.t 26)⟩,⟨some 28,none,.mv (.c (.i .i64 0))⟩]) (.blk 0 (.loop (.seq (.reg [⟨some 29,none,.bin .lss (.t 28) (.t 27)⟩]) (.seq (.ite (.t 29) .skip (.exit 0)) (.seq (.blk 1 (.seq (.reg [⟨some 30,none,.mv (.t 28)⟩,⟨some 31,none,.ia 2 (.t 26) (.t 28)⟩,⟨some 32,none,.ld (some 2) (.t 31)⟩,⟨some 9,none,.alloc [(.i .i64 0),(.i .i64 0)]⟩,
 ⟨some 8,none,.mv (.t 30)⟩,⟨none,none,.st 2 (.t 9) (.t 32)⟩]) (.seq (.seq (.drw [⟨some 33,none,.mv (.t 5)⟩,⟨some 34,none,.ld (some 2) (.t 9)⟩,⟨some 35,none,.lk [1,1] (.i .i64 0) false (.t 33) (.t 34)⟩,⟨some 36,none,.bin .neq (.t 35) (.c (.i .i64 1))⟩,⟨some 37,none,.mv (.t 36)⟩,⟨some 38,(some (37,false)),.mv (.t 5)⟩,⟨some 39,(some (37,false)),.ld (some 2) (.t 9)⟩,⟨some 40,(some (37,false)),.call topo_reverse [.t 39]⟩,⟨some 41,(some (37,false)),.lk [1,1] (.i .i64 0) false (.t 38) (.t 40)⟩,⟨some 42,(some (37,false)),.bin .neq (.t 41) (.c (.i .i64 0))⟩,⟨some 43,none,.pick (.t 37) (.c (.b true)) (.t 42)⟩,
 ⟨some 44,none,.mv (.t 43)⟩,⟨some 45,(some (44,false)),.mv (.t 8)⟩,⟨some 46,(some (44,false)),.bin .gtr (.t 45) (.c (.i .i64 0))⟩,⟨some 47,(some (44,false)),.mv (.t 46)⟩,⟨some 48,(some (47,true)),.mv (.t 6)⟩,⟨some 49,(some (47,true)),.mv (.t 8)⟩,⟨some 50,(some (47,true)),.bin .sub (.t 49) (.c (.i .i64 1))⟩,⟨some 51,(some (47,true)),.ia 2 (.t 48) (.t 50)⟩,⟨some 52,(some (47,true)),.fa 0 (.t 51)⟩,⟨some 53,(some (47,true)),.ld none (.t 52)⟩,⟨some 54,(some (47,true)),.fa 0 (.t 9)⟩,⟨some 55,(some (47,true)),.ld none (.t 54)⟩,⟨some 56,(some (47,true)),.bin .eql (.t 53) (.t 55)⟩,⟨some 57,(some (44,false)),.pick (.t 47) (.t 56) (.c (.b false))⟩,
 ⟨some 58,none,.pick (.t 44) (.c (.b true)) (.t 57)⟩] []) (.ite (.t 58) (.seq (.reg [⟨some 2,none,.mv (.c .nil)⟩,⟨some 3,none,.mv (.c (.i .i64 13))⟩]) .ret) .skip)) (.reg [⟨some 59,none,.mv (.t 7)⟩,⟨some 60,none,.fa 1 (.t 9)⟩,⟨some 61,none,.ld none (.t 60)⟩,⟨some 62,none,.fa 0 (.t 9)⟩,⟨some 63,none,.ld none (.t 62)⟩,⟨none,none,.mup [1] (.t 59) (.t 61) (.t 63)⟩])))) (.reg [⟨some 64,none,.bin .add (.t 28) (.c (.i .i64 1))⟩,⟨some 28,none,.mv (.t 64)⟩]))))))) (.seq (.reg [⟨some 10,none,.mv (.c .nil)⟩]) (.seq (.reg [⟨some 65,none,.mkm none⟩,⟨some 11,none,.mv (.t 65)⟩]) (.seq (.seq (.reg [⟨some 66,none,.mv (.t 6)⟩,
 ⟨some 67,none,.len 0 (.t 66)⟩,⟨some 68,none,.mv (.c (.i .i64 0))⟩]) (.blk 2 (.loop (.seq (.reg [⟨some 69,none,.bin .lss (.t 68) (.t 67)⟩]) (.seq (.ite (.t 69) .skip (.exit 2)) (.seq (.blk 3 (.seq (.reg [⟨some 70,none,.ia 2 (.t 66) (.t 68)⟩,⟨some 71,none,.ld (some 2) (.t 70)⟩,⟨some 13,none,.alloc [(.i .i64 0),(.i .i64 0)]⟩,⟨none,none,.st 2 (.t 13) (.t 71)⟩]) (.seq (.seq (.reg [⟨some 72,none,.mv (.t 11)⟩,⟨some 73,none,.fa 0 (.t 13)⟩,⟨some 74,none,.ld none (.t 73)⟩,⟨some 75,none,.lk [1] (.b false) false (.t 72) (.t 74)⟩]) (.ite (.t 75) (.exit 3) .skip)) (.seq (.reg [⟨some 14,none,.mv (.c .nil)⟩])
 (.seq (.seq (.reg [⟨some 76,none,.fa 0 (.t 13)⟩,⟨some 77,none,.ld none (.t 76)⟩,⟨some 15,none,.mv (.t 77)⟩]) (.blk 4 (.loop (.seq (.seq (.reg [⟨some 78,none,.mv (.t 11)⟩,⟨some 79,none,.mv (.t 15)⟩,⟨some 80,none,.lk [1] (.b false) false (.t 78) (.t 79)⟩,⟨some 81,none,.un .not (.t 80)⟩]) (.ite (.t 81) .skip (.exit 4))) (.seq (.blk 5 (.seq (.reg [⟨some 85,none,.mv (.t 11)⟩,⟨some 86,none,.mv (.t 15)⟩,⟨none,none,.mup [1] (.t 85) (.t 86) (.c (.b true))⟩]) (.reg [⟨some 87,none,.mv (.t 14)⟩,⟨some 88,none,.mv (.t 15)⟩,⟨some 89,none,.bsi 1 1 [(.i .i64 0)] [(0,(.t 88))]⟩,⟨some 90,none,.app 1 8 (.t 87) (.t 89)⟩,
 ⟨some 14,none,.mv (.t 90)⟩]))) (.reg [⟨some 82,none,.mv (.t 7)⟩,⟨some 83,none,.mv (.t 15)⟩,⟨some 84,none,.lk [1] (.i .i64 0) false (.t 82) (.t 83)⟩,⟨some 15,none,.mv (.t 84)⟩])))))) (.reg [⟨some 91,none,.mv (.t 10)⟩,⟨some 92,none,.mv (.t 14)⟩,⟨some 93,none,.bso 1 1 [.nil] [(0,(.t 92))]⟩,⟨some 94,none,.app 1 24 (.t 91) (.t 93)⟩,⟨some 10,none,.mv (.t 94)⟩])))))) (.reg [⟨some 95,none,.bin .add (.t 68) (.c (.i .i64 1))⟩,⟨some 68,none,.mv (.t 95)⟩]))))))) (.seq (.reg [⟨some 96,none,.mv (.t 10)⟩,⟨some 2,none,.mv (.t 96)⟩,⟨some 3,none,.mv (.c (.i .i64 0))⟩]) .ret))))))))))
def topo_Loops.r:List Rr:=[.tmp 2,.tmp 3]
abbrev topo_Loops.n:Nat:=97
end Go.Abs
set_option linter.unusedVariables false
set_option linter.unusedSimpArgs false
namespace Go.Abs
abbrev Use:=P2 × Int
def uCs (u:Use):List V:=[.i .i64 u.1.x,.i .i64 u.1.y,.i .i64 u.2]
def Yd (l:List Use):V:=.l 3 (l.map uCs)
def Jm (l:List Use):Prop:=l.Pairwise λa b=>P2.lt a.1 b.1
def pl (l:List Use) (e:P2):Nat:=l.countP λu=>decide (P2.lt u.1 e)
theorem pl_le (l:List Use) (e:P2):pl l e<=l.length:=List.countP_le_length
theorem Jx {e:P2}:∀{l:List Use},Jm l->∀{j:Nat} {u:Use},l[j]?=some u->(P2.lt u.1 e↔j<pl l e)
 | [],_,j,u,h=>by simp at h
 | x::r,ha,j,u,h=>by
   have hc:=List.pairwise_cons.1 ha
   by_cases hx:P2.lt x.1 e
   ·have hp:pl (x::r) e=pl r e+1:=by simp[pl,List.countP_cons,hx]
    cases j with
    | zero=>simp at h;subst h;simp[hp,hx]
    | succ j=>simp at h;rw[Jx hc.2 h,hp];omega
   ·have h0:pl r e=0:=by
     unfold pl
     rw[List.countP_eq_zero]
     intro v hv
     simp only[decide_eq_true_eq]
     exact λh1=>hx (P2.lt_trans (hc.1 v hv) h1)
    have hp:pl (x::r) e=0:=by unfold pl at h0 ⊢;simp[List.countP_cons,hx,h0]
    rw[hp]
    simp only[Nat.not_lt_zero,iff_false]
    cases j with
    | zero=>simp at h;subst h;exact hx
    | succ j =>
      simp at h
      rw[Jx hc.2 h,h0];omega
theorem ascU_key {l:List Use} (h:Jm l) {i j:Nat} {e:P2} {n n':Int} (hi:l[i]?=some (e,n)) (hj:l[j]?=some (e,n')):i=j:=by
 have a:=Jx (e:=e) h hi
 have b:=Jx (e:=e) h hj
 obtain⟨hi',hi2⟩:=List.getElem?_eq_some_iff.1 hi
 obtain⟨hj',hj2⟩:=List.getElem?_eq_some_iff.1 hj
 have hpw:=List.pairwise_iff_getElem.1 h
 rcases Nat.lt_trichotomy i j with h1 | h1 | h1
 ·have:=hpw i j hi' hj' h1
  rw[hi2,hj2]at this
  exact absurd this (P2.lt_irrefl e)
 ·exact h1
 ·have:=hpw j i hj' hi' h1
  rw[hi2,hj2]at this
  exact absurd this (P2.lt_irrefl e)
theorem pl_found {l:List Use} (h:Jm l) {j:Nat} {e:P2} {n:Int} (hj:l[j]?=some (e,n)):pl l e=j:=by
 have h1:¬ j<pl l e:=λhh=>P2.lt_irrefl e ((Jx h hj).2 hh)
 have hjl:=(List.getElem?_eq_some_iff.1 hj).1
 refine Decidable.byContradiction λhne=>?_
 have hlt:pl l e<j:=by omega
 have h2:l[pl l e]?=some l[pl l e]:=List.getElem?_eq_getElem (by omega)
 have h3:=List.pairwise_iff_getElem.1 h (pl l e) j (by omega) hjl hlt
 obtain⟨_,hj2⟩:=List.getElem?_eq_some_iff.1 hj
 rw[hj2]at h3
 have:pl l e<pl l e:=(Jx h h2).1 h3
 omega
def Ji (l:List Use) (e:P2):Int:=match l[pl l e]? with | some u=>if u.1=e then u.2 else 0 | none=>0
def hasU (l:List Use) (e:P2):Bool:=match l[pl l e]? with | some u=>decide (u.1=e) | none=>false
theorem hasU_iff {l:List Use} (h:Jm l) {e:P2}:hasU l e=true↔∃n,(e,n)∈l:=by
 unfold hasU
 constructor
 ·intro h1
  split at h1
  ·rename_i u hu
   simp only[decide_eq_true_eq]at h1
   subst h1
   exact⟨u.2,List.mem_of_getElem? hu⟩
  ·simp at h1
 ·rintro⟨n,hn⟩
  obtain⟨j,hj⟩:=List.getElem?_of_mem hn
  rw[pl_found h hj,hj];simp
theorem numU_of {l:List Use} (h:Jm l) {e:P2} {n:Int} (hn:(e,n)∈l):Ji l e=n:=by
 obtain⟨j,hj⟩:=List.getElem?_of_mem hn
 unfold Ji
 rw[pl_found h hj,hj];simp
theorem numU_none {l:List Use} {e:P2} (hn:∀n,(e,n)∉l):Ji l e=0:=by
 unfold Ji
 split
 ·rename_i u hu
  split
  ·rename_i h1
   subst h1
   exact absurd (List.mem_of_getElem? hu) (hn u.2)
  ·rfl
 ·rfl
def Zm (l:List Use) (e:P2):List Use:=if hasU l e then l else l.take (pl l e)++(e,0)::l.drop (pl l e)
theorem K7 {l:List Use} (h:Jm l) {e:P2} {u:Use}:u∈Zm l e↔u∈l∨(u=(e,0)/\hasU l e=false):=by
 unfold Zm
 cases hh:hasU l e
 ·simp only[Bool.false_eq_true,if_false,List.mem_append,List.mem_cons,and_true]
  have:u∈l↔u∈l.take (pl l e)∨u∈l.drop (pl l e):=by rw[<- List.mem_append,List.take_append_drop]
  rw[this]
  constructor
  ·rintro (h1 | h1 | h1)<;>simp[h1]
  ·rintro ((h1 | h1) | h1)<;>simp[h1]
 ·simp
theorem W7 {l:List Use} (h:Jm l) (e:P2):Jm (Zm l e):=by
 unfold Zm
 cases hh:hasU l e
 ·simp only[Bool.false_eq_true,if_false]
  have h':Jm (l.take (pl l e)++l.drop (pl l e)):=by rw[List.take_append_drop];exact h
  have hp:=List.pairwise_append.1 h'
  have hlow:∀u∈l.take (pl l e),P2.lt u.1 e:=by
   intro u hu
   obtain⟨j,hj⟩:=List.getElem?_of_mem hu
   rw[List.getElem?_take]at hj
   split at hj
   ·rename_i hjl
    exact(Jx h hj).2 hjl
   ·simp at hj
  have hhigh:∀u∈l.drop (pl l e),P2.lt e u.1:=by
   intro u hu
   obtain⟨j,hj⟩:=List.getElem?_of_mem hu
   rw[List.getElem?_drop]at hj
   refine Decidable.byContradiction λhc=>?_
   have h1:¬ P2.lt u.1 e:=λh2=>by have:=(Jx h hj).1 h2;omega
   have h2:u.1=e:=(P2.lt_total h1 hc)
   have h3:hasU l e=true:=(hasU_iff h).2 ⟨u.2,by rw[<- h2];exact List.mem_of_getElem? hj⟩
   rw[hh]at h3;cases h3
  unfold Jm
  rw[List.pairwise_append]
  refine⟨hp.1,List.pairwise_cons.2 ⟨hhigh,hp.2.1⟩,λa ha b hb=>?_⟩
  rcases List.mem_cons.1 hb with rfl | hb
  ·exact hlow a ha
  ·exact hp.2.2 a ha b hb
 ·simpa using h
def bumpU (l:List Use) (e:P2):List Use:=let w:=Zm l e;w.set (pl w e) (e,Ji w e+1)
theorem set_asc {l:List Use} (h:Jm l) {j:Nat} {e:P2} {n n':Int} (hj:l[j]?=some (e,n)):Jm (l.set j (e,n')):=by
 unfold Jm at h ⊢
 have h1:((l.set j (e,n')).map Prod.fst)=l.map Prod.fst:=by
  rw[List.map_set]
  apply List.ext_getElem?
  intro i
  by_cases hi:j=i
  ·subst hi
   have:=(List.getElem?_eq_some_iff.1 hj).1
   rw[List.getElem?_set_self (by simpa using this)];simp[hj]
  ·rw[List.getElem?_set_ne hi]
 have h2:(l.map Prod.fst).Pairwise P2.lt:=by rw[List.pairwise_map];exact h
 rw[<- h1,List.pairwise_map]at h2
 exact h2
def Cnt (L:List Use) (E:List P2):Prop:=Jm L/\∀e n,(e,n)∈L↔e∈E/\n=E.count e
theorem Cnt.nil:Cnt [] []:=⟨by simp[Jm],by simp⟩
theorem Cnt.has {L:List Use} {E:List P2} (h:Cnt L E) (e:P2):hasU L e=true↔e∈E:=by
 rw[hasU_iff h.1]
 constructor
 ·rintro⟨n,hn⟩;exact((h.2 e n).1 hn).1
 ·intro he;exact⟨_,(h.2 e _).2 ⟨he,rfl⟩⟩
theorem Cnt.num {L:List Use} {E:List P2} (h:Cnt L E) (e:P2):Ji L e=E.count e:=by
 by_cases he:e∈E
 ·exact numU_of h.1 ((h.2 e _).2 ⟨he,rfl⟩)
 ·rw[numU_none λn hn=>he ((h.2 e n).1 hn).1,List.count_eq_zero.2 he];rfl
theorem withU_get {L:List Use} (h:Jm L) (e:P2):(Zm L e)[pl (Zm L e) e]?=some (e,Ji (Zm L e) e):=by
 have ha:=W7 h e
 have hm:∃n,(e,n)∈Zm L e:=by
  cases hh:hasU L e
  ·exact⟨0,(K7 h).2 (.inr ⟨rfl,hh⟩)⟩
  ·obtain⟨n,hn⟩:=(hasU_iff h).1 hh
   exact⟨n,(K7 h).2 (.inl hn)⟩
 obtain⟨n,hn⟩:=hm
 obtain⟨j,hj⟩:=List.getElem?_of_mem hn
 rw[numU_of ha hn,pl_found ha hj,hj]
theorem withU_num {L:List Use} {E:List P2} (h:Cnt L E) (e:P2):Ji (Zm L e) e=E.count e:=by
 have ha:=W7 h.1 e
 by_cases he:e∈E
 ·exact numU_of ha ((K7 h.1).2 (.inl ((h.2 e _).2 ⟨he,rfl⟩)))
 ·have hh:hasU L e=false:=by rw[Bool.eq_false_iff];exact λh1=>he ((h.has e).1 h1)
  rw[numU_of ha ((K7 h.1).2 (.inr ⟨rfl,hh⟩)),List.count_eq_zero.2 he];rfl
theorem Cnt.bump {L:List Use} {E:List P2} (h:Cnt L E) (e:P2):Cnt (bumpU L e) (E++[e]):=by
 have hg:=withU_get h.1 e
 have ha:=W7 h.1 e
 have hn:=withU_num h e
 refine⟨set_asc ha hg,λe' n=>?_⟩
 unfold bumpU
 simp only
 generalize hW:Zm L e=W at *
 generalize hj:pl W e=j at *
 have hjl:=(List.getElem?_eq_some_iff.1 hg).1
 have hmem:(e',n)∈W.set j (e,Ji W e+1)↔(e'=e/\n=Ji W e+1)∨(e'≠e/\(e',n)∈W):=by
  constructor
  ·intro hm
   obtain⟨i,hi⟩:=List.getElem?_of_mem hm
   by_cases hij:j=i
   ·subst hij
    rw[List.getElem?_set_self hjl]at hi
    simp only[Option.some.injEq,Prod.mk.injEq]at hi
    exact .inl ⟨hi.1.symm,hi.2.symm⟩
   ·rw[List.getElem?_set_ne hij]at hi
    refine .inr ⟨?_,List.mem_of_getElem? hi⟩
    rintro rfl
    exact hij (ascU_key ha hg hi)
  ·rintro (⟨rfl,rfl⟩ | ⟨h1,h2⟩)
   ·exact List.mem_of_getElem? (i:=j) (by rw[List.getElem?_set_self hjl])
   ·obtain⟨i,hi⟩:=List.getElem?_of_mem h2
    have hij:¬ j=i:=by
     rintro rfl
     rw[hg]at hi
     simp at hi
     exact h1 hi.1.symm
    exact List.mem_of_getElem? (i:=i) (by rw[List.getElem?_set_ne hij];exact hi)
 rw[hmem,hn,List.count_append,List.mem_append,List.mem_singleton]
 by_cases he:e'=e
 ·subst he
  simp
 ·have h1:(e',n)∈W↔e'∈E/\n=E.count e':=by
   rw[<- hW,K7 h.1,h.2]
   constructor
   ·rintro (h2 | h2)
    ·exact h2
    ·simp at h2;exact absurd h2.1.1 he
   ·exact .inl
  have h2:¬ e=e':=λh=>he h.symm
  simp[he,h1,h2,List.count_singleton]
theorem U1:∀{l k:List P2},l.Nodup->(∀a∈l,a∈k)->l.length<=k.length
 | [],k,_,_=>by simp
 | x::l,k,hn,hs=>by
   have hc:=List.nodup_cons.1 hn
   have hx:=hs x (by simp)
   have:=U1 (l:=l) (k:=k.erase x) hc.2 (λa ha=>by
    have hne:a≠x:=by rintro rfl;exact hc.1 ha
    exact(List.mem_erase_of_ne hne).2 (hs a (by simp[ha])))
   rw[List.length_erase_of_mem hx]at this
   have:=List.length_pos_of_mem hx
   simp only[List.length_cons];omega
theorem Cnt.nodup {L:List Use} {E:List P2} (h:Cnt L E):(L.map Prod.fst).Nodup:=by
 show List.Pairwise _ _
 rw[List.pairwise_map]
 exact h.1.imp λh1 h2=>by rw[h2]at h1;exact P2.lt_irrefl _ h1
theorem Cnt.len {L:List Use} {E:List P2} (h:Cnt L E):L.length<=E.length:=by
 have:=U1 h.nodup (k:=E) λe he=>by
  obtain⟨u,hu,rfl⟩:=List.mem_map.1 he
  exact((h.2 u.1 u.2).1 hu).1
 simpa using this
end Go.Abs
