/- Part of the library on which the proof stands: an abstract machine, its values and its soundness against the model; or what functions of the program do to such values. -/
import Derived.Test.YtcdjgldeiaiaoaaGreatGoToB
import Derived.Test.YtcdjgldeiaiaoaaGreatGoClone
import Derived.Test.YtcdjgldeiaiaoaaGreatAbsSN
set_option linter.unusedVariables false
set_option linter.unusedSimpArgs false
namespace Go.Abs
def holes_Fan.c:C :=(.seq (.reg [⟨some 2,none,.mv (.c .nil)⟩]) (.seq (.reg [⟨some 3,none,.mv (.c .nil)⟩]) (.seq (.seq (.reg [⟨some 4,none,.mv (.c (.i .i64 1))⟩]) (.blk 0 (.loop (.seq (.seq (.reg [⟨some 5,none,.mv (.t 4)⟩,⟨some 6,none,.bin .add (.t 5) (.c (.i .i64 1))⟩,⟨some 7,none,.mv (.t 0)⟩,⟨some 8,none,.len 0 (.t 7)⟩,⟨some 9,none,.bin .lss (.t 6) (.t 8)⟩]) (.ite (.t 9) .skip (.exit 0))) (.seq (.blk 1 (.drw [⟨some 12,none,.mv (.t 3)⟩,⟨some 13,none,.mv (.t 0)⟩,⟨some 14,none,.ia 1 (.t 13) (.c (.i .i64 0))⟩,⟨some 15,none,.ld none (.t 14)⟩,⟨some 16,none,.mv (.t 0)⟩,⟨some 17,none,.mv (.t 4)⟩,⟨some 18,none,.ia 1 (.t 16) (.t 17)⟩,
 ⟨some 19,none,.ld none (.t 18)⟩,⟨some 20,none,.mv (.t 0)⟩,⟨some 21,none,.mv (.t 4)⟩,⟨some 22,none,.bin .add (.t 21) (.c (.i .i64 1))⟩,⟨some 23,none,.ia 1 (.t 20) (.t 22)⟩,⟨some 24,none,.ld none (.t 23)⟩,⟨some 25,none,.build [(.i .i64 0),(.i .i64 0),(.i .i64 0)] [(0,1,(.t 15)),(1,1,(.t 19)),(2,1,(.t 24))]⟩,⟨some 26,none,.bsi 3 1 [(.i .i64 0),(.i .i64 0),(.i .i64 0)] [(0,(.t 25))]⟩,⟨some 27,none,.app 3 24 (.t 12) (.t 26)⟩,⟨some 3,none,.mv (.t 27)⟩] [])) (.reg [⟨some 10,none,.mv (.t 4)⟩,⟨some 11,none,.bin .add (.t 10) (.c (.i .i64 1))⟩,⟨some 4,none,.mv (.t 11)⟩])))))) (.seq (.reg [⟨some 28,none,.mv (.t 3)⟩,
 ⟨some 2,none,.mv (.t 28)⟩]) .ret))))
def holes_Fan.r:List Rr:=[.tmp 2]
abbrev holes_Fan.n:Nat:=29
def holes_Fill.c (mesh_Check topo_Loops slices_Clone_api_Vec_api_Vec slices_Clone_api_Tri_api_Tri holes_Fan holes_extend:FuncId):C :=(.seq (.reg [⟨some 1,none,.box (.t 0)⟩,⟨some 2,none,.alloc [.nil,.nil]⟩,⟨some 3,none,.mv (.c (.i .i64 0))⟩,⟨some 4,none,.mv (.c (.i .i64 0))⟩]) (.seq (.seq (.reg [⟨some 11,none,.ld (some 2) (.t 1)⟩,⟨some 12,none,.call mesh_Check [.t 11]⟩,⟨some 5,none,.mv (.t 12)⟩]) (.seq (.reg [⟨some 13,none,.mv (.t 5)⟩,⟨some 14,none,.bin .neq (.t 13) (.c (.i .i64 0))⟩]) (.ite (.t 14) (.seq (.reg [⟨some 15,none,.build [.nil,.nil] []⟩,⟨some 16,none,.mv (.t 5)⟩,⟨none,none,.st 2 (.t 2) (.t 15)⟩,
 ⟨some 3,none,.mv (.c (.i .i64 0))⟩,⟨some 4,none,.mv (.t 16)⟩]) .ret) .skip))) (.seq (.reg [⟨some 18,none,.ld (some 2) (.t 1)⟩,⟨some 19,none,.call topo_Loops [.t 18]⟩,⟨some 17,none,.mv (.t 19)⟩,⟨some 20,none,.ext (.t 17) 0⟩,⟨some 21,none,.ext (.t 17) 1⟩,⟨some 6,none,.mv (.t 20)⟩,⟨some 7,none,.mv (.t 21)⟩]) (.seq (.seq (.reg [⟨some 22,none,.mv (.t 7)⟩,⟨some 23,none,.bin .neq (.t 22) (.c (.i .i64 0))⟩]) (.ite (.t 23) (.seq (.reg [⟨some 24,none,.build [.nil,.nil] []⟩,⟨some 25,none,.mv (.t 7)⟩,⟨none,none,.st 2 (.t 2) (.t 24)⟩,⟨some 3,none,.mv (.c (.i .i64 0))⟩,⟨some 4,none,.mv (.t 25)⟩]) .ret) .skip))
 (.seq (.drw [⟨some 26,none,.fa 0 (.t 1)⟩,⟨some 27,none,.ld none (.t 26)⟩,⟨some 28,none,.call slices_Clone_api_Vec_api_Vec [.t 27]⟩,⟨some 29,none,.fa 1 (.t 1)⟩,⟨some 30,none,.ld none (.t 29)⟩,⟨some 31,none,.call slices_Clone_api_Tri_api_Tri [.t 30]⟩,⟨some 32,none,.build [.nil,.nil] [(0,1,(.t 28)),(1,1,(.t 31))]⟩,⟨some 8,none,.alloc [.nil,.nil]⟩,⟨none,none,.st 2 (.t 8) (.t 32)⟩] [[],[],[],[2],[2],[],[],[],[]]) (.seq (.seq (.reg [⟨some 33,none,.mv (.t 6)⟩,⟨some 34,none,.len 0 (.t 33)⟩,⟨some 35,none,.mv (.c (.i .i64 0))⟩]) (.blk 0 (.loop (.seq (.reg [⟨some 36,none,.bin .lss (.t 35) (.t 34)⟩]) (.seq
 (.ite (.t 36) .skip (.exit 0)) (.seq (.blk 1 (.seq (.reg [⟨some 37,none,.ia 1 (.t 33) (.t 35)⟩,⟨some 38,none,.ld none (.t 37)⟩,⟨some 10,none,.mv (.t 38)⟩]) (.seq (.reg [⟨some 39,none,.mv (.t 10)⟩,⟨some 40,none,.call holes_Fan [.t 39]⟩,⟨some 41,none,.call holes_extend [.t 8,.t 40]⟩,⟨some 42,none,.un .not (.t 41)⟩]) (.ite (.t 42) (.seq (.reg [⟨some 43,none,.build [.nil,.nil] []⟩,⟨none,none,.st 2 (.t 2) (.t 43)⟩,⟨some 3,none,.mv (.c (.i .i64 0))⟩,⟨some 4,none,.mv (.c (.i .i64 2))⟩]) .ret) .skip)))) (.reg [⟨some 44,none,.bin .add (.t 35) (.c (.i .i64 1))⟩,⟨some 35,none,.mv (.t 44)⟩]))))))) (.seq (.reg [
 ⟨some 45,none,.ld (some 2) (.t 8)⟩,⟨some 46,none,.mv (.t 6)⟩,⟨some 47,none,.len 0 (.t 46)⟩,⟨none,none,.st 2 (.t 2) (.t 45)⟩,⟨some 3,none,.mv (.t 47)⟩,⟨some 4,none,.mv (.c (.i .i64 0))⟩]) .ret)))))))
def holes_Fill.r:List Rr:=[.cell 2 (some 2),.tmp 3,.tmp 4]
abbrev holes_Fill.n:Nat:=48
def holes_extend.c:C :=(.seq (.reg [⟨some 4,none,.mv (.c (.b false))⟩]) (.seq (.seq (.reg [⟨some 5,none,.mv (.t 0)⟩,⟨some 6,none,.nck (.t 5)⟩,⟨some 7,none,.fa 1 (.t 6)⟩,⟨some 8,none,.ld none (.t 7)⟩,⟨some 9,none,.len 0 (.t 8)⟩,⟨some 10,none,.mv (.t 1)⟩,⟨some 11,none,.len 0 (.t 10)⟩,⟨some 12,none,.bin .add (.t 9) (.t 11)⟩,⟨some 13,none,.bin .gtr (.t 12) (.c (.i .i64 4096))⟩]) (.ite (.t 13) (.seq (.reg [⟨some 4,none,.mv (.c (.b false))⟩]) .ret) .skip)) (.seq (.reg [⟨some 14,none,.mv (.t 0)⟩,⟨some 15,none,.mv (.t 0)⟩,⟨some 16,none,.nck (.t 15)⟩,⟨some 17,none,.fa 1 (.t 16)⟩,⟨some 18,none,.ld none (.t 17)⟩,
 ⟨some 19,none,.mv (.t 1)⟩,⟨some 20,none,.app 3 24 (.t 18) (.t 19)⟩,⟨some 21,none,.nck (.t 14)⟩,⟨some 22,none,.fa 1 (.t 21)⟩,⟨none,none,.st 1 (.t 22) (.t 20)⟩]) (.seq (.reg [⟨some 4,none,.mv (.c (.b true))⟩]) .ret))))
def holes_extend.r:List Rr:=[.tmp 4]
abbrev holes_extend.n:Nat:=23
def topo_Loops.c (mesh_Check topo_counted topo_Boundary topo_reverse:FuncId):C :=(.seq (.reg [⟨some 1,none,.box (.t 0)⟩,⟨some 2,none,.mv (.c .nil)⟩,⟨some 3,none,.mv (.c (.i .i64 0))⟩]) (.seq (.seq (.reg [⟨some 16,none,.ld (some 2) (.t 1)⟩,⟨some 17,none,.call mesh_Check [.t 16]⟩,⟨some 4,none,.mv (.t 17)⟩]) (.seq (.reg [⟨some 18,none,.mv (.t 4)⟩,⟨some 19,none,.bin .neq (.t 18) (.c (.i .i64 0))⟩]) (.ite (.t 19) (.seq (.reg [⟨some 20,none,.mv (.t 4)⟩,⟨some 2,none,.mv (.c .nil)⟩,⟨some 3,none,.mv (.t 20)⟩]) .ret) .skip))) (.seq (.reg [⟨some 21,none,.ld (some 2) (.t 1)⟩,⟨some 22,none,.call topo_counted [.t 21]⟩,
 ⟨some 5,none,.mv (.t 22)⟩]) (.seq (.reg [⟨some 23,none,.ld (some 2) (.t 1)⟩,⟨some 24,none,.call topo_Boundary [.t 23]⟩,⟨some 6,none,.mv (.t 24)⟩]) (.seq (.reg [⟨some 25,none,.mkm none⟩,⟨some 7,none,.mv (.t 25)⟩]) (.seq (.seq (.reg [⟨some 26,none,.mv (.t 6)⟩,⟨some 27,none,.len 0 (.t 26)⟩,⟨some 28,none,.mv (.c (.i .i64 0))⟩]) (.blk 0 (.loop (.seq (.reg [⟨some 29,none,.bin .lss (.t 28) (.t 27)⟩]) (.seq (.ite (.t 29) .skip (.exit 0)) (.seq (.blk 1 (.seq (.reg [⟨some 30,none,.mv (.t 28)⟩,⟨some 31,none,.ia 2 (.t 26) (.t 28)⟩,⟨some 32,none,.ld (some 2) (.t 31)⟩,⟨some 9,none,.alloc [(.i .i64 0),(.i .i64 0)]⟩,
 ⟨some 8,none,.mv (.t 30)⟩,⟨none,none,.st 2 (.t 9) (.t 32)⟩]) (.seq (.seq (.drw [⟨some 33,none,.mv (.t 5)⟩,⟨some 34,none,.ld (some 2) (.t 9)⟩,⟨some 35,none,.lk [1,1] (.i .i64 0) false (.t 33) (.t 34)⟩,⟨some 36,none,.bin .neq (.t 35) (.c (.i .i64 1))⟩,⟨some 37,none,.mv (.t 36)⟩,⟨some 38,(some (37,false)),.mv (.t 5)⟩,⟨some 39,(some (37,false)),.ld (some 2) (.t 9)⟩,⟨some 40,(some (37,false)),.call topo_reverse [.t 39]⟩,⟨some 41,(some (37,false)),.lk [1,1] (.i .i64 0) false (.t 38) (.t 40)⟩,⟨some 42,(some (37,false)),.bin .neq (.t 41) (.c (.i .i64 0))⟩,⟨some 43,none,.pick (.t 37) (.c (.b true)) (.t 42)⟩,
 ⟨some 44,none,.mv (.t 43)⟩,⟨some 45,(some (44,false)),.mv (.t 8)⟩,⟨some 46,(some (44,false)),.bin .gtr (.t 45) (.c (.i .i64 0))⟩,⟨some 47,(some (44,false)),.mv (.t 46)⟩,⟨some 48,(some (47,true)),.mv (.t 6)⟩,⟨some 49,(some (47,true)),.mv (.t 8)⟩,⟨some 50,(some (47,true)),.bin .sub (.t 49) (.c (.i .i64 1))⟩,⟨some 51,(some (47,true)),.ia 2 (.t 48) (.t 50)⟩,⟨some 52,(some (47,true)),.fa 0 (.t 51)⟩,⟨some 53,(some (47,true)),.ld none (.t 52)⟩,⟨some 54,(some (47,true)),.fa 0 (.t 9)⟩,⟨some 55,(some (47,true)),.ld none (.t 54)⟩,⟨some 56,(some (47,true)),.bin .eql (.t 53) (.t 55)⟩,⟨some 57,(some (44,false)),.pick (.t 47) (.t 56) (.c (.b false))⟩,
 ⟨some 58,none,.pick (.t 44) (.c (.b true)) (.t 57)⟩] []) (.ite (.t 58) (.seq (.reg [⟨some 2,none,.mv (.c .nil)⟩,⟨some 3,none,.mv (.c (.i .i64 13))⟩]) .ret) .skip)) (.reg [⟨some 59,none,.mv (.t 7)⟩,⟨some 60,none,.fa 1 (.t 9)⟩,⟨some 61,none,.ld none (.t 60)⟩,⟨some 62,none,.fa 0 (.t 9)⟩,⟨some 63,none,.ld none (.t 62)⟩,⟨none,none,.mup [1] (.t 59) (.t 61) (.t 63)⟩])))) (.reg [⟨some 64,none,.bin .add (.t 28) (.c (.i .i64 1))⟩,⟨some 28,none,.mv (.t 64)⟩]))))))) (.seq (.reg [⟨some 10,none,.mv (.c .nil)⟩]) (.seq (.reg [⟨some 65,none,.mkm none⟩,⟨some 11,none,.mv (.t 65)⟩]) (.seq (.seq (.reg [⟨some 66,none,.mv (.t 6)⟩,
 ⟨some 67,none,.len 0 (.t 66)⟩,⟨some 68,none,.mv (.c (.i .i64 0))⟩]) (.blk 2 (.loop (.seq (.reg [⟨some 69,none,.bin .lss (.t 68) (.t 67)⟩]) (.seq (.ite (.t 69) .skip (.exit 2)) (.seq (.blk 3 (.seq (.reg [⟨some 70,none,.ia 2 (.t 66) (.t 68)⟩,⟨some 71,none,.ld (some 2) (.t 70)⟩,⟨some 13,none,.alloc [(.i .i64 0),(.i .i64 0)]⟩,⟨none,none,.st 2 (.t 13) (.t 71)⟩]) (.seq (.seq (.reg [⟨some 72,none,.mv (.t 11)⟩,⟨some 73,none,.fa 0 (.t 13)⟩,⟨some 74,none,.ld none (.t 73)⟩,⟨some 75,none,.lk [1] (.b false) false (.t 72) (.t 74)⟩]) (.ite (.t 75) (.exit 3) .skip)) (.seq (.reg [⟨some 14,none,.mv (.c .nil)⟩])
 (.seq (.seq (.reg [⟨some 76,none,.fa 0 (.t 13)⟩,⟨some 77,none,.ld none (.t 76)⟩,⟨some 15,none,.mv (.t 77)⟩]) (.blk 4 (.loop (.seq (.seq (.reg [⟨some 78,none,.mv (.t 11)⟩,⟨some 79,none,.mv (.t 15)⟩,⟨some 80,none,.lk [1] (.b false) false (.t 78) (.t 79)⟩,⟨some 81,none,.un .not (.t 80)⟩]) (.ite (.t 81) .skip (.exit 4))) (.seq (.blk 5 (.seq (.reg [⟨some 85,none,.mv (.t 11)⟩,⟨some 86,none,.mv (.t 15)⟩,⟨none,none,.mup [1] (.t 85) (.t 86) (.c (.b true))⟩]) (.reg [⟨some 87,none,.mv (.t 14)⟩,⟨some 88,none,.mv (.t 15)⟩,⟨some 89,none,.bsi 1 1 [(.i .i64 0)] [(0,(.t 88))]⟩,⟨some 90,none,.app 1 8 (.t 87) (.t 89)⟩,
 ⟨some 14,none,.mv (.t 90)⟩]))) (.reg [⟨some 82,none,.mv (.t 7)⟩,⟨some 83,none,.mv (.t 15)⟩,⟨some 84,none,.lk [1] (.i .i64 0) false (.t 82) (.t 83)⟩,⟨some 15,none,.mv (.t 84)⟩])))))) (.reg [⟨some 91,none,.mv (.t 10)⟩,⟨some 92,none,.mv (.t 14)⟩,⟨some 93,none,.bso 1 1 [.nil] [(0,(.t 92))]⟩,⟨some 94,none,.app 1 24 (.t 91) (.t 93)⟩,⟨some 10,none,.mv (.t 94)⟩])))))) (.reg [⟨some 95,none,.bin .add (.t 68) (.c (.i .i64 1))⟩,⟨some 68,none,.mv (.t 95)⟩]))))))) (.seq (.reg [⟨some 96,none,.mv (.t 10)⟩,⟨some 2,none,.mv (.t 96)⟩,⟨some 3,none,.mv (.c (.i .i64 0))⟩]) .ret))))))))))
def topo_Loops.r:List Rr:=[.tmp 2,.tmp 3]
abbrev topo_Loops.n:Nat:=97
end Go.Abs
set_option linter.unusedVariables false
set_option linter.unusedSimpArgs false
namespace Go.Abs
abbrev Use:=P2 × Int
def ascU (l:List Use):Prop:=l.Pairwise fun a b=>P2.lt a.1 b.1
def pl (l:List Use) (e:P2):Nat:=l.countP fun u=>decide (P2.lt u.1 e)
theorem pl_spec {e:P2}:∀ {l:List Use},ascU l→∀ {j:Nat} {u:Use},l[j]? = some u→(P2.lt u.1 e ↔ j < pl l e)
 | [],_,j,u,h=>by simp at h
 | x :: r,ha,j,u,h=>by
   have hc:=List.pairwise_cons.1 ha
   by_cases hx:P2.lt x.1 e
   ·have hp:pl (x :: r) e = pl r e + 1:=by simp [pl,List.countP_cons,hx]
    cases j with
    | zero=>simp at h;subst h;simp [hp,hx]
    | succ j=>simp at h;rw [pl_spec hc.2 h,hp];omega
   ·have h0:pl r e = 0:=by
     unfold pl
     rw [List.countP_eq_zero]
     intro v hv
     simp only [decide_eq_true_eq]
     exact fun h1=>hx (P2.lt_trans (hc.1 v hv) h1)
    have hp:pl (x :: r) e = 0:=by unfold pl at h0 ⊢;simp [List.countP_cons,hx,h0]
    rw [hp]
    simp only [Nat.not_lt_zero,iff_false]
    cases j with
    | zero=>simp at h;subst h;exact hx
    | succ j =>
      simp at h
      rw [pl_spec hc.2 h,h0];omega
theorem pl_found {l:List Use} (h:ascU l) {j:Nat} {e:P2} {n:Int} (hj:l[j]? = some (e,n)):pl l e = j:=by
 have h1:¬ j < pl l e:=fun hh=>P2.lt_irrefl e ((pl_spec h hj).2 hh)
 have hjl:=(List.getElem?_eq_some_iff.1 hj).1
 refine Decidable.byContradiction fun hne=>?_
 have hlt:pl l e < j:=by omega
 have h2:l[pl l e]? = some l[pl l e]:=List.getElem?_eq_getElem (by omega)
 have h3:=List.pairwise_iff_getElem.1 h (pl l e) j (by omega) hjl hlt
 obtain⟨_,hj2⟩:=List.getElem?_eq_some_iff.1 hj
 rw [hj2] at h3
 have:pl l e < pl l e:=(pl_spec h h2).1 h3
 omega
def numU (l:List Use) (e:P2):Int:=match l[pl l e]? with | some u=>if u.1 = e then u.2 else 0 | none=>0
def hasU (l:List Use) (e:P2):Bool:=match l[pl l e]? with | some u=>decide (u.1 = e) | none=>false
theorem hasU_iff {l:List Use} (h:ascU l) {e:P2}:hasU l e = true ↔ ∃ n,(e,n) ∈ l:=by
 unfold hasU
 constructor
 ·intro h1
  split at h1
  ·rename_i u hu
   simp only [decide_eq_true_eq] at h1
   subst h1
   exact⟨u.2,List.mem_of_getElem? hu⟩
  ·simp at h1
 ·rintro⟨n,hn⟩
  obtain⟨j,hj⟩:=List.getElem?_of_mem hn
  rw [pl_found h hj,hj];simp
theorem numU_of {l:List Use} (h:ascU l) {e:P2} {n:Int} (hn:(e,n) ∈ l):numU l e = n:=by
 obtain⟨j,hj⟩:=List.getElem?_of_mem hn
 unfold numU
 rw [pl_found h hj,hj];simp
theorem numU_none {l:List Use} {e:P2} (hn:∀ n,(e,n) ∉ l):numU l e = 0:=by
 unfold numU
 split
 ·rename_i u hu
  split
  ·rename_i h1
   subst h1
   exact absurd (List.mem_of_getElem? hu) (hn u.2)
  ·rfl
 ·rfl
def Cnt (L:List Use) (E:List P2):Prop:=ascU L∧∀ e n,(e,n) ∈ L ↔ e ∈ E∧n = E.count e
theorem Cnt.nil:Cnt [] []:=⟨by simp [ascU],by simp⟩
theorem Cnt.has {L:List Use} {E:List P2} (h:Cnt L E) (e:P2):hasU L e = true ↔ e ∈ E:=by
 rw [hasU_iff h.1]
 constructor
 ·rintro⟨n,hn⟩;exact ((h.2 e n).1 hn).1
 ·intro he;exact⟨_,(h.2 e _).2 ⟨he,rfl⟩⟩
theorem Cnt.num {L:List Use} {E:List P2} (h:Cnt L E) (e:P2):numU L e = E.count e:=by
 by_cases he:e ∈ E
 ·exact numU_of h.1 ((h.2 e _).2 ⟨he,rfl⟩)
 ·rw [numU_none fun n hn=>he ((h.2 e n).1 hn).1,List.count_eq_zero.2 he];rfl
theorem nodupP_len:∀ {l k:List P2},l.Nodup→(∀ a ∈ l,a ∈ k)→l.length ≤ k.length
 | [],k,_,_=>by simp
 | x :: l,k,hn,hs=>by
   have hc:=List.nodup_cons.1 hn
   have hx:=hs x (by simp)
   have:=nodupP_len (l:=l) (k:=k.erase x) hc.2 (fun a ha=>by
    have hne:a ≠ x:=by rintro rfl;exact hc.1 ha
    exact (List.mem_erase_of_ne hne).2 (hs a (by simp [ha])))
   rw [List.length_erase_of_mem hx] at this
   have:=List.length_pos_of_mem hx
   simp only [List.length_cons];omega
theorem Cnt.nodup {L:List Use} {E:List P2} (h:Cnt L E):(L.map Prod.fst).Nodup:=by
 show List.Pairwise _ _
 rw [List.pairwise_map]
 exact h.1.imp fun h1 h2=>by rw [h2] at h1;exact P2.lt_irrefl _ h1
theorem Cnt.len {L:List Use} {E:List P2} (h:Cnt L E):L.length ≤ E.length:=by
 have:=nodupP_len h.nodup (k:=E) fun e he=>by
  obtain⟨u,hu,rfl⟩:=List.mem_map.1 he
  exact ((h.2 u.1 u.2).1 hu).1
 simpa using this
end Go.Abs
set_option linter.unusedVariables false
set_option linter.unusedSimpArgs false
namespace Go.Abs
theorem WeakH_self {n:Nat} {h l:List O} (hc:∀ o ∈ h,o.cl n):WeakH n (h ++ l) h:=by
 have:=WeakH_app (n:=n) (a:=l) (b:=[]) hc (by cases l <;> trivial)
 rwa [List.append_nil] at this
theorem app_get_l {h l:List O} {id:Nat} {o:O} (ho:h[id]? = some o):(h ++ l)[id]? = some o:=by
 rw [List.getElem?_append_left (List.getElem?_eq_some_iff.1 ho).1,ho]
theorem app_set_l {h:List O} (l:List O) {id:Nat} (hid:id < h.length) (o:O):(h ++ l).set id o = h.set id o ++ l:=List.set_append_left _ _ hid
theorem frzAll_own {h:List O} {id g sz n:Nat} {els:List (List V)} (ho:h[id]? = some (.arr g sz els)) (hn:els.length = n) (hd:∀ el ∈ els,∀ x ∈ el,x.isD = true) {vs us:List V} (hr:frzAll h vs = some us) :
  frzAll h (.own id g 0 n :: vs) = some (.l sz els :: us):=by
 subst hn
 have ha:(els.all fun x=>x.all V.isD) = true:=by rw [List.all_eq_true];exact fun el hel=>List.all_eq_true.2 (hd el hel)
 have h1:frz h (.own id g 0 els.length) = some (.l sz els):=by simp [frz,frz0,ho,ha]
 unfold frzAll at hr ⊢
 simp [h1,hr]
end Go.Abs
set_option linter.unusedVariables false
set_option linter.unusedSimpArgs false
namespace Go.Abs
theorem take_succ_get {α:Type} {l:List α} {k:Nat} {x:α} (h:l[k]? = some x):l.take (k + 1) = l.take k ++ [x]:=by rw [List.take_add_one,h];rfl
end Go.Abs
set_option linter.unusedVariables false
set_option linter.unusedSimpArgs false
namespace Go.Abs
open Go.Sort
theorem edgesOf_ne {t:T3} {e:P2} (h:e ∈ edgesOf t):e.x ≠ e.y:=by
 unfold edgesOf edgesK at h
 have:=(List.mem_filter.1 h).2
 simpa using this
theorem use_pos {m:Mesh} {e:P2} (hz:m.check = 0):e ∈ alluses m.tris ↔ 0 < m.use e:=by
 have:m.use e = (alluses m.tris).count e:=by simp [Mesh.use,hz]
 rw [this,← List.count_pos_iff];omega
end Go.Abs
set_option linter.unusedVariables false
set_option linter.unusedSimpArgs false
namespace Go.Abs
theorem P2.rev2 (e:P2):e.rev.rev = e:=rfl
theorem count_rev (E:List P2) (e:P2):(E.map P2.rev).count e = E.count e.rev:=by
 induction E with
 | nil=>rfl
 | cons a E ih =>
   rw [List.map_cons,List.count_cons,List.count_cons,ih]
   have:(a.rev == e) = (a == e.rev):=by
    rw [Bool.eq_iff_iff,beq_iff_eq,beq_iff_eq]
    constructor
    ·rintro rfl;rfl
    ·rintro rfl;rfl
   rw [this]
theorem edgesOf_bal (t:T3) (v:Int):(edgesOf t).countP (fun e=>decide (e.x = v)) = (edgesOf t).countP (fun e=>decide (e.y = v)):=by
 have e3:edgesOf t = (edges3 t).filter fun e=>decide (e.x ≠ e.y):=rfl
 rw [e3,List.countP_filter,List.countP_filter]
 unfold edges3
 simp only [List.countP_cons,List.countP_nil,Bool.and_eq_true,decide_eq_true_eq,Nat.zero_add,ne_eq]
 by_cases q1:t.a = v <;> by_cases q2:t.b = v <;> by_cases q3:t.c = v <;> simp [q1,q2,q3] <;> (repeat' split) <;> omega
theorem alluses_bal (l:List T3) (v:Int):(alluses l).countP (fun e=>decide (e.x = v)) = (alluses l).countP (fun e=>decide (e.y = v)):=by
 induction l with
 | nil=>rfl
 | cons t l ih =>
   have:alluses (t :: l) = edgesOf t ++ alluses l:=by simp [alluses]
   rw [this,List.countP_append,List.countP_append,ih,edgesOf_bal]
def okAt (m:Mesh) (l:List P2) (i:Nat):Bool:=match l[i]? with
 | some e=>decide (m.use e = 1) && (decide (m.use e.rev = 0) && !(decide (0 < i) && decide (((l[i - 1]?).getD ⟨0,0⟩).x = e.x)))
 | none=>true
def Mesh.simple (m:Mesh) (l:List P2):Bool:=(List.range l.length).all (okAt m l)
theorem simple_get {m:Mesh} {l:List P2} (h:m.simple l = true) {i:Nat} {e:P2} (he:l[i]? = some e):m.use e = 1∧m.use e.rev = 0∧(0 < i→((l[i - 1]?).getD ⟨0,0⟩).x ≠ e.x):=by
 have hlt:=(List.getElem?_eq_some_iff.1 he).1
 have:=List.all_eq_true.1 h i (List.mem_range.2 hlt)
 unfold okAt at this
 rw [he] at this
 simp at this
 refine⟨this.1,this.2.1,fun hi=>?_⟩
 rcases this.2.2 with h0 | h0
 ·omega
 ·exact h0
theorem simple_xlt {m:Mesh} {l:List P2} (h:m.simple l = true) (ha:asc l):∀ (j i:Nat) (a b:P2),i < j→l[i]? = some a→l[j]? = some b→a.x < b.x
 | 0,i,a,b,hij,_,_=>by omega
 | j + 1,i,a,b,hij,h1,h2=>by
   have hlt:=(List.getElem?_eq_some_iff.1 h2).1
   have hj:l[j]? = some l[j]:=List.getElem?_eq_getElem (by omega)
   obtain⟨hi',h1'⟩:=List.getElem?_eq_some_iff.1 h1
   obtain⟨hj',h2'⟩:=List.getElem?_eq_some_iff.1 h2
   have hs:=(simple_get h h2).2.2 (by omega)
   rw [Nat.add_sub_cancel,hj] at hs
   simp only [Option.getD_some] at hs
   have hp:=List.pairwise_iff_getElem.1 ha j (j + 1) (by omega) hj' (by omega)
   rw [h2'] at hp
   have hlt2:l[j].x < b.x:=by unfold P2.lt at hp;omega
   by_cases hij2:i = j
   ·subst hij2
    rw [hj] at h1
    obtain rfl:=Option.some.inj h1
    exact hlt2
   ·have:=simple_xlt h ha j i a l[j] (by omega) h1 hj
    omega
theorem simple_xnd {m:Mesh} {l:List P2} (h:m.simple l = true) (ha:asc l):(l.map P2.x).Nodup:=by
 rw [List.nodup_iff_pairwise_ne,List.pairwise_map,List.pairwise_iff_getElem]
 intro i j hi hj hij he
 have:=simple_xlt h ha j i _ _ hij (List.getElem?_eq_getElem hi) (List.getElem?_eq_getElem hj)
 omega
theorem nodup_countP_le {α:Type} {l:List α} {f:α→Int} (h:(l.map f).Nodup) (v:Int):l.countP (fun e=>decide (f e = v)) ≤ 1:=by
 induction l with
 | nil=>simp
 | cons a l ih =>
   simp only [List.map_cons,List.nodup_cons] at h
   rw [List.countP_cons]
   have:=ih h.2
   by_cases hv:f a = v
   ·have h0:l.countP (fun e=>decide (f e = v)) = 0:=by
     rw [List.countP_eq_zero]
     intro b hb
     simp only [decide_eq_true_eq]
     intro hbv
     exact h.1 (List.mem_map.2 ⟨b,hb,by rw [hbv,hv]⟩)
    rw [h0];simp [hv]
   ·simp [hv];omega
theorem nodup_of_countP {α:Type} {f:α→Int}:∀ {l:List α},(∀ v,l.countP (fun e=>decide (f e = v)) ≤ 1)→(l.map f).Nodup
 | [],_=>by simp
 | a :: l,h=>by
   rw [List.map_cons,List.nodup_cons]
   refine⟨fun hm=>?_,nodup_of_countP fun v=>?_⟩
   ·obtain⟨b,hb,hba⟩:=List.mem_map.1 hm
    have h1:=h (f a)
    rw [List.countP_cons] at h1
    have:0 < l.countP (fun e=>decide (f e = f a)):=List.countP_pos_iff.2 ⟨b,hb,by simp [hba]⟩
    simp only [decide_true,if_true] at h1;omega
   ·have h1:=h v
    rw [List.countP_cons] at h1
    split at h1 <;> omega
theorem border_bal {m:Mesh} (hz:m.check = 0) (h:m.simple m.border = true) (v:Int):m.border.countP (fun e=>decide (e.x = v)) = m.border.countP (fun e=>decide (e.y = v)):=by
 have hn:m.border.Nodup:=(border_asc m).imp fun h1 h2=>by subst h2;exact P2.lt_irrefl _ h1
 have hu:∀ e,m.use e = (alluses m.tris).count e:=fun e=>by simp [Mesh.use,hz]
 have hcnt:∀ e,m.border.count e = if e ∈ m.border then 1 else 0:=fun e=>by
  by_cases he:e ∈ m.border
  ·rw [if_pos he]
   have h1:=List.count_pos_iff.2 he
   have h2:=List.nodup_iff_count.1 hn e
   omega
  ·rw [if_neg he];exact List.count_eq_zero.2 he
 have hone:∀ e,e ∈ m.border→(alluses m.tris).count e = 1∧(alluses m.tris).count e.rev = 0:=fun e he=>by
  obtain⟨i,hi⟩:=List.getElem?_of_mem he
  have:=simple_get h hi
  rw [hu,hu] at this
  omega
 have hperm:(alluses m.tris ++ m.border.map P2.rev).Perm ((alluses m.tris).map P2.rev ++ m.border):=by
  rw [List.perm_iff_count]
  intro e
  rw [List.count_append,List.count_append,count_rev,count_rev,hcnt,hcnt]
  by_cases h1:e ∈ m.border
  ·have g1:=hone e h1
   have h2:e.rev ∉ m.border:=fun h2=>by have:=hone _ h2;rw [P2.rev2] at this;omega
   rw [if_pos h1,if_neg h2];omega
  ·by_cases h2:e.rev ∈ m.border
   ·have g2:=hone _ h2
    rw [P2.rev2] at g2
    rw [if_neg h1,if_pos h2];omega
   ·rw [if_neg h1,if_neg h2]
    have p1:0 ≤ m.use e:=by rw [hu];omega
    have p2:0 ≤ m.use e.rev:=by rw [hu];omega
    have k1:¬ (m.use e.rev < m.use e):=fun hlt=>h1 (mem_border.2 ⟨hz,(use_pos hz).2 (by omega),hlt⟩)
    have k2:¬ (m.use e < m.use e.rev):=fun hlt=>h2 (mem_border.2 ⟨hz,(use_pos hz).2 (by omega),by rw [P2.rev2];exact hlt⟩)
    rw [hu,hu] at k1 k2
    omega
 have hc:=hperm.countP_eq (fun e=>decide (e.x = v))
 rw [List.countP_append,List.countP_append,List.countP_map,List.countP_map] at hc
 have e1:((fun e=>decide (e.x = v)) ∘ P2.rev) = fun e:P2=>decide (e.y = v):=rfl
 rw [e1] at hc
 have:=alluses_bal m.tris v
 omega
theorem border_ynd {m:Mesh} (hz:m.check = 0) (h:m.simple m.border = true):(m.border.map P2.y).Nodup:=by
 refine nodup_of_countP fun v=>?_
 rw [← border_bal hz h]
 exact nodup_countP_le (simple_xnd h (border_asc m)) v
theorem border_xy {m:Mesh} (hz:m.check = 0) (h:m.simple m.border = true) (v:Int):v ∈ m.border.map P2.x ↔ v ∈ m.border.map P2.y:=by
 have hb:=border_bal hz h v
 have k:∀ f:P2→Int,v ∈ m.border.map f ↔ 0 < m.border.countP (fun e=>decide (f e = v)):=fun f=>by
  rw [List.mem_map,List.countP_pos_iff];simp
 rw [k,k,hb]
def nxt (l:List P2) (v:Int):Int:=match l.find? (fun e=>decide (e.y = v)) with | some e=>e.x | none=>v
theorem nxt_of {l:List P2} (hy:(l.map P2.y).Nodup) {e:P2} (he:e ∈ l):nxt l e.y = e.x:=by
 unfold nxt
 cases hf:l.find? (fun a=>decide (a.y = e.y)) with
 | none =>
   have:=List.find?_eq_none.1 hf e he
   simp at this
 | some a =>
   have h1:=List.find?_some hf
   have h2:=List.mem_of_find?_eq_some hf
   simp only [decide_eq_true_eq] at h1
   have:a = e:=by
    obtain⟨i,hi,rfl⟩:=List.mem_iff_getElem.1 h2
    obtain⟨j,hj,rfl⟩:=List.mem_iff_getElem.1 he
    have e1:(l.map P2.y).idxOf l[i].y = i:=by
     have:=hy.idxOf_getElem i (by simpa using hi)
     simpa using this
    have e2:(l.map P2.y).idxOf l[j].y = j:=by
     have:=hy.idxOf_getElem j (by simpa using hj)
     simpa using this
    rw [h1] at e1
    have:i = j:=by omega
    subst this;rfl
   subst this;rfl
def walkW (nx:Int→Int) (done:List Int):Nat→List Int→Int→List Int
 | 0,w,_=>w
 | n + 1,w,v=>if v ∈ done ++ w then w else walkW nx done n (w ++ [v]) (nx v)
def loopStep (nx:Int→Int) (N:Nat) (s:List Int × List (List Int)) (e:P2):List Int × List (List Int) :=
 if e.x ∈ s.1 then s else (s.1 ++ walkW nx s.1 (N + 1) [] e.x,s.2 ++ [walkW nx s.1 (N + 1) [] e.x])
def loopsK (nx:Int→Int) (l:List P2) (k:Nat):List Int × List (List Int):=(l.take k).foldl (loopStep nx l.length) ([],[])
theorem loopsK_succ (nx:Int→Int) {l:List P2} {k:Nat} {e:P2} (h:l[k]? = some e):loopsK nx l (k + 1) = loopStep nx l.length (loopsK nx l k) e:=by
 unfold loopsK;rw [take_succ_get h,List.foldl_append];rfl
def loopsOf (l:List P2):List (List Int):=(loopsK (nxt l) l l.length).2
def Mesh.loops (m:Mesh):List (List Int) × Int:=if m.check = 0 then (if m.simple m.border then (loopsOf m.border,0) else ([],13)) else ([],m.check)
def todo (A done:List Int):Nat:=(A.filter fun v=>!done.contains v).length
theorem todo_lt {A done:List Int} {v:Int} (hv:v ∈ A) (hd:v ∉ done):todo A (done ++ [v]) < todo A done:=by
 unfold todo
 induction A with
 | nil=>simp at hv
 | cons a A ih =>
   have hle:(A.filter fun u=>!(done ++ [v]).contains u).length ≤ (A.filter fun u=>!done.contains u).length:=by
    clear ih hv
    induction A with
    | nil=>simp
    | cons b A ih2 =>
      simp only [List.filter_cons]
      by_cases hb:done.contains b = true
      ·have:(done ++ [v]).contains b = true:=by simp at hb ⊢;exact .inl hb
       rw [hb,this];exact ih2
      ·rw [Bool.not_eq_true] at hb
       simp only [hb,Bool.not_false,if_true]
       split <;> (try simp only [List.length_cons]) <;> omega
   by_cases hav:a = v
   ·subst hav
    have h1:(done ++ [a]).contains a = true:=by simp
    have h2:done.contains a = false:=by simpa using hd
    simp only [List.filter_cons,h1,h2,Bool.not_true,Bool.not_false,if_true,Bool.false_eq_true,if_false,List.length_cons]
    omega
   ·have hvA:v ∈ A:=by
     rcases List.mem_cons.1 hv with h | h
     ·exact absurd h.symm hav
     ·exact h
    have:=ih hvA
    have hc:(done ++ [v]).contains a = done.contains a:=by
     rw [Bool.eq_iff_iff];simp [hav]
    simp only [List.filter_cons,hc]
    split <;> (try simp only [List.length_cons]) <;> omega
theorem todo_le (A done:List Int):todo A done ≤ A.length:=List.length_filter_le _ _
end Go.Abs
set_option linter.unusedVariables false
set_option linter.unusedSimpArgs false
namespace Go.Abs
def isV (l:List Int):V:=.l 1 (l.map fun x=>[.i .i64 x])
def fanK (l:List Int) (k:Nat):List T3:=(List.range k).map fun i=>⟨(l[0]?).getD 0,(l[i + 1]?).getD 0,(l[i + 2]?).getD 0⟩
def fanOf (l:List Int):List T3:=fanK l (l.length - 2)
theorem fanK_len (l:List Int) (k:Nat):(fanK l k).length = k:=by simp [fanK]
theorem fanK_succ (l:List Int) (k:Nat):fanK l (k + 1) = fanK l k ++ [⟨(l[0]?).getD 0,(l[k + 1]?).getD 0,(l[k + 2]?).getD 0⟩]:=by simp [fanK,List.range_succ]
def FanC (P:Program) (f:FuncId):Prop:=∀ l:List Int,l.length ≤ 1000000→CallIs P f [isV l] (tsV (fanOf l))
theorem t3_isD (t:T3):(∀ y ∈ t.cs,y.isD = true) = True:=by simp [T3.cs,V.isD]
section
variable {P:Program} (hm:P.follows .mixedOrders = true)
include hm
set_option maxHeartbeats 1000000 in
theorem holes_Fan_ok {f:FuncId} (hf:FnOk P f holes_Fan.c holes_Fan.r holes_Fan.n):FanC P f:=by
 intro l hl
 refine PureC.is (pure_of hm hf (Nat.le_of_ble_eq_true rfl) ?_) rfl
 unfold holes_Fan.c
 simp [go_sem,isV]
 refine AS_loopG [.t 3 3] (α:=Nat) (fun k=>k ≤ l.length - 2)
  (fun k=>⟨[(0,isV l),(3,.own 0 (k + 1) 0 k),(4,.i .i64 (k + 1:Nat))],[.arr (k + 1) 3 ((fanK l k).map T3.cs)]⟩)
  (fun k=>l.length - 2 - k) 0 (Nat.zero_le _) ?_ ?_
 ·simp [go_sem,isV,fanK]
 ·intro k hk
  have hkl:=fanK_len l k
  have hs:=fanK_succ l k
  by_cases hlt:k + 2 < l.length
  ·have h1:k + 1 < l.length:=by omega
   have h0:0 < l.length:=by omega
   have g0:l[0]? = some l[0]:=List.getElem?_eq_getElem h0
   have g1:l[k + 1]? = some l[k + 1]:=List.getElem?_eq_getElem h1
   have g2:l[k + 2]? = some l[k + 2]:=List.getElem?_eq_getElem hlt
   generalize l[0] = x0 at g0
   generalize l[k + 1] = x1 at g1
   generalize l[k + 2] = x2 at g2
   obtain⟨_,q0⟩:=List.getElem?_eq_some_iff.1 g0
   obtain⟨_,q1⟩:=List.getElem?_eq_some_iff.1 g1
   obtain⟨_,q2⟩:=List.getElem?_eq_some_iff.1 g2
   rw [g0,g1,g2] at hs
   have e1:((k:Int) + 1 + 1) = ((k + 2:Nat):Int):=by omega
   have e2:((k:Int) + 1 + 1).toNat = k + 2:=by omega
   have e3:((k:Int) + 1).toNat = k + 1:=by omega
   simp (disch:=omega) [go_sem,isV,wrap64_small,show (k:Int) + 1 + 1 < l.length by omega,h0,h1,hlt,q0,q1,q2,g0,g1,g2,e2,e3]
   refine⟨by omega,by omega,⟨by omega,by omega,by omega⟩,k + 1,by omega,by omega,⟨rfl,by omega⟩,rfl,?_⟩
   rw [hs,List.take_of_length_le (by simp [hkl]),List.map_append];rfl
  ·have hkk:k = l.length - 2:=by omega
   have hfo:fanOf l = fanK l k:=by rw [hkk];rfl
   have ht:List.take k ((fanK l k).map T3.cs) = (fanK l k).map T3.cs:=List.take_of_length_le (by simp [hkl])
   simp (disch:=omega) [go_sem,isV,wrap64_small,show ¬ (k:Int) + 1 + 1 < l.length by omega,holes_Fan.r,hfo,tsV,t3_isD,hkl,ht]
end
end Go.Abs
set_option linter.unusedVariables false
set_option linter.unusedSimpArgs false
namespace Go.Abs
def bl (n:Nat) (g:Nat→Bool):List (List V):=(List.range n).map fun j=>[.b (g j)]
theorem bl_len (n:Nat) (g:Nat→Bool):(bl n g).length = n:=by simp [bl]
theorem bl_get {n:Nat} {g:Nat→Bool} {i:Nat} (h:i < n):(bl n g)[i]? = some [.b (g i)]:=by simp [bl,h]
theorem bl_rep (n:Nat):List.replicate n [V.b false] = bl n (fun _=>false):=by
 apply List.ext_getElem?
 intro i
 by_cases h:i < n
 ·rw [bl_get h];simp [h]
 ·rw [List.getElem?_eq_none (by simp;omega),List.getElem?_eq_none (by rw [bl_len];omega)]
theorem bl_set (n:Nat) (g:Nat→Bool) (i:Nat) (b:Bool):(bl n g).set i [.b b] = bl n (fun j=>if j = i then b else g j):=by
 apply List.ext_getElem?
 intro j
 by_cases h:j < n
 ·rw [bl_get h]
  by_cases hj:i = j
  ·subst hj
   rw [List.getElem?_set_self (by rw [bl_len];exact h),if_pos rfl]
  ·rw [List.getElem?_set_ne hj,bl_get h,if_neg (fun hh=>hj hh.symm)]
 ·rw [List.getElem?_eq_none (by simp [bl_len];omega),List.getElem?_eq_none (by rw [bl_len];omega)]
theorem bl_cl (n:Nat) (g:Nat→Bool) (k:Nat):∀ el ∈ bl n g,∀ x ∈ el,x.cl k = true:=by
 intro el hel x hx
 obtain⟨j,_,rfl⟩:=List.mem_map.1 hel
 simp at hx;subst hx;rfl
end Go.Abs
set_option linter.unusedVariables false
set_option linter.unusedSimpArgs false
namespace Go.Abs
def ics (l:List Int):List (List V):=l.map fun x=>[.i .i64 x]
def lsV (ls:List (List Int)):V:=.l 1 (ls.map fun l=>[isV l])
def LoopsC (P:Program) (f:FuncId):Prop:=∀ m:Mesh,CallIs P f [m.enc] (.t [lsV m.loops.1,.i .i64 m.loops.2])
def Held (b:Nat) (hx:List O) (ls:List (List Int)) (cells:List (List V)):Prop :=
 cells.length = ls.length∧∀ (i:Nat) (c:List V) (l:List Int),cells[i]? = some c→ls[i]? = some l→∃ j g,c = [.own (b + j) g 0 l.length]∧hx[j]? = some (.arr g 1 (ics l))
def Flt (hx:List O):Prop:=∀ o ∈ hx,∀ n,o.cl n
theorem Held.nil (b:Nat):Held b [] [] []:=⟨rfl,by simp⟩
theorem Held.app {b:Nat} {hx:List O} {ls:List (List Int)} {cells:List (List V)} (h:Held b hx ls cells) (l:List O):Held b (hx ++ l) ls cells :=
 ⟨h.1,fun i c x h1 h2=>by obtain⟨j,g,h3,h4⟩:=h.2 i c x h1 h2;exact⟨j,g,h3,by rw [List.getElem?_append_left (List.getElem?_eq_some_iff.1 h4).1];exact h4⟩⟩
theorem Held.snoc {b:Nat} {hx:List O} {ls:List (List Int)} {cells:List (List V)} (h:Held b hx ls cells) {j g:Nat} {l:List Int} (hj:hx[j]? = some (.arr g 1 (ics l))):Held b hx (ls ++ [l]) (cells ++ [[.own (b + j) g 0 l.length]]):=by
 refine⟨by simp [h.1],fun i c x h1 h2=>?_⟩
 by_cases hi:i < ls.length
 ·rw [List.getElem?_append_left (by rw [h.1];exact hi)] at h1
  rw [List.getElem?_append_left hi] at h2
  exact h.2 i c x h1 h2
 ·rw [List.getElem?_append_right (by rw [h.1];omega)] at h1
  rw [List.getElem?_append_right (by omega)] at h2
  have hi0:i - ls.length = 0:=by
   have:=(List.getElem?_eq_some_iff.1 h2).1
   simp at this;omega
  rw [h.1,hi0] at h1
  rw [hi0] at h2
  simp at h1 h2
  subst h1;subst h2
  exact⟨j,g,rfl,hj⟩
theorem Held.cl {b:Nat} {hx:List O} {ls:List (List Int)} {cells:List (List V)} (h:Held b hx ls cells) {n:Nat} (hn:b + hx.length ≤ n):∀ el ∈ cells,∀ x ∈ el,x.cl n = true:=by
 intro el hel x hx'
 obtain⟨i,hi⟩:=List.getElem?_of_mem hel
 have hlt:=(List.getElem?_eq_some_iff.1 hi).1
 obtain⟨j,g,rfl,h4⟩:=h.2 i el _ hi (List.getElem?_eq_getElem (by rw [← h.1];exact hlt))
 have:=(List.getElem?_eq_some_iff.1 h4).1
 simp at hx';subst hx'
 simp [V.cl,V.cl1,V.cl0];omega
theorem ics_isD (l:List Int):∀ el ∈ ics l,∀ x ∈ el,x.isD = true:=by
 intro el hel x hx
 obtain⟨a,_,rfl⟩:=List.mem_map.1 hel
 simp at hx;subst hx;rfl
theorem ics_cl (l:List Int) (n:Nat):∀ el ∈ ics l,∀ x ∈ el,x.cl n = true:=fun el hel x hx=>isD_cl n (ics_isD l el hel x hx)
theorem Held.frz {b:Nat} {base hx:List O} {ls:List (List Int)} {cells:List (List V)} (h:Held b hx ls cells) (hb:base.length = b):cells.mapM (fun el=>el.mapM (frzD (base ++ hx))) = some (ls.map fun l=>[isV l]):=by
 induction cells generalizing ls with
 | nil =>
   have:=h.1
   simp at this
   obtain rfl:=List.length_eq_zero_iff.1 this.symm
   rfl
 | cons c cells ih =>
   have hl:=h.1
   cases ls with
   | nil=>simp at hl
   | cons l ls =>
     have h0:=h.2 0 c l rfl rfl
     obtain⟨j,g,rfl,hj⟩:=h0
     have ht:Held b hx ls cells:=⟨by simpa using hl,fun i c x h1 h2=>h.2 (i + 1) c x (by simpa using h1) (by simpa using h2)⟩
     have hg:(base ++ hx)[b + j]? = some (.arr g 1 (ics l)):=by rw [← hb,app_get_r];exact hj
     have ha:(ics l).all (fun x=>x.all V.isD) = true:=by
      rw [List.all_eq_true]
      exact fun el hel=>List.all_eq_true.2 (ics_isD l el hel)
     have hlen:(ics l).length = l.length:=by simp [ics]
     have hfr:frzD (base ++ hx) (.own (b + j) g 0 l.length) = some (isV l):=by
      have ht2:List.take l.length (ics l) = ics l:=List.take_of_length_le (by omega)
      show _ = some (V.l 1 (ics l))
      simp only [frzD,frz0,hg]
      rw [List.drop_zero,ht2,if_pos ⟨trivial,by omega,ha⟩]
     simp [List.mapM_cons,hfr,ih ht]
theorem held_if {b:Nat} {base hx:List O} {ls:List (List Int)} {cells:List (List V)} (h:Held b hx ls cells) (hb:base.length = b) :
  (if ls.length ≤ cells.length then Option.map (V.l 1) (List.mapM (fun el=>List.mapM (frzD (base ++ hx)) el) (List.take ls.length cells)) else none) = some (lsV ls):=by
 have h1:=h.frz hb
 have ht:List.take ls.length cells = cells:=List.take_of_length_le (by rw [h.1];exact Nat.le_refl _)
 simp only [ht,h1,h.1,Nat.le_refl,if_true,Option.map_some,lsV]
theorem simple_false {m:Mesh} {l:List P2} {k:Nat} (hk:k < l.length) (h:okAt m l k = false):m.simple l = false:=by
 unfold Mesh.simple
 rw [List.all_eq_false]
 exact⟨k,List.mem_range.2 hk,by simp [h]⟩
end Go.Abs
