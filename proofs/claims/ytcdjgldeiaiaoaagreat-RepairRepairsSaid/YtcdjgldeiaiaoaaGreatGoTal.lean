/- Part of the library on which the proof stands: an abstract machine, its values and its soundness against the model; or what functions of the program do to such values. -/
import Derived.Test.YtcdjgldeiaiaoaaGreatGoOriA
set_option linter.unusedVariables false
set_option linter.unusedSimpArgs false
namespace Go.Abs
def Q8 (l:List T3):List P2:=l.flatMap Q2
def Yv (l:List T3):Bool:=decide (Q8 l).Nodup
def CohC (P:Program) (f:FuncId):Prop:=∀l:List T3,l.length<=1000000->CallIs P f [tsV l] (.b (Yv l))
def asV (p:P2 × Int):V × V:=(.a [.i .i64 p.1.x,.i .i64 p.1.y],.i .i64 p.2)
theorem Xb (e:P2) (L:List (P2 × Int)):Qm [1,1] (.a [.i .i64 e.x,.i .i64 e.y]) (L.map asV)=some ((fnd e L).map λp=>(p.1,.i .i64 p.2)):=findE_as e L
def Jh (S:List P2):List (P2 × Int):=S.map λe=>(e,1)
theorem Id {e:P2} {S:List P2} (h:e∉S):fnd e (Jh S)=none:=by
 rw[fnd_none]
 intro p hp
 simp only[Jh,List.mem_map]at hp
 obtain⟨a,ha,rfl⟩:=hp
 rintro rfl
 exact h ha
theorem Ic {e:P2}:∀{S:List P2},e∈S->∃i,fnd e (Jh S)=some (i,1)
 | [],h=>by simp at h
 | a::S,h=>by
   by_cases ha:e=a
   ·exact⟨0,by simp[Jh,fnd,ha]⟩
   ·have:e∈S:=by simpa[ha]using h
    obtain⟨i,hi⟩:=Ic this
    exact⟨i+1,by simp only[Jh,List.map_cons,fnd,if_neg ha];rw[show S.map (λe=>(e,(1:Int)))=Jh S from rfl,hi];rfl⟩
theorem ones_app (S:List P2) (e:P2):Jh (S++[e])=Jh S++[(e,1)]:=by simp[Jh]
theorem Zv (L:List (P2 × Int)) (n:Nat):∀(a b:V) (x:P2) (y:Int),(x,y)∈L->asV (x,y)=(a,b)->V.cl n a=true/\V.cl n b=true:=by
 rintro _ _ x y _ h
 simp only[asV,Prod.mk.injEq]at h
 obtain⟨rfl,rfl⟩:=h
 exact⟨rfl,rfl⟩
theorem Zz {l:List T3} {k:Nat} {t:T3} (h:l[k]?=some t):Q8 (l.take (k+1))=Q8 (l.take k)++Q2 t:=by
 simp[Q8,List.take_add_one,h]
theorem Y1 (l:List T3) (k:Nat):(Q8 (l.take k)).length<=3*k:=by
 induction k with
 | zero=>simp[Q8]
 | succ k ih =>
   by_cases hk:k<l.length
   ·rw[Zz (List.getElem?_eq_getElem hk),List.length_append]
    have:(Q2 l[k]).length<=3:=Qz _ 3
    omega
   ·rw[List.take_of_length_le (by omega)]at ih ⊢;omega
theorem coh_pre {l:List T3} {k:Nat} {S:List P2} (h:S <+: Q2 ((l[k]?).getD ⟨0,0,0⟩)) (hk:k<l.length):Q8 (l.take k)++S <+: Q8 l:=by
 have h1:l[k]?=some l[k]:=List.getElem?_eq_getElem hk
 rw[h1]at h
 obtain⟨r,hr⟩:=h
 have h2:Q8 l=Q8 (l.take (k+1))++Q8 (l.drop (k+1)):=by
  rw[Q8,Q8,Q8,<- List.flatMap_append,List.take_append_drop]
 rw[h2,Zz h1,show Q2 l[k]=S++r from hr.symm]
 exact⟨r++Q8 (l.drop (k+1)),by simp⟩
section
variable {P:Program} (hm:P.follows .mixedOrders=true)
include hm
set_option maxHeartbeats 4000000 in
theorem Ip {f fe:FuncId} (hf:Q9 P f (orient_coherent.c fe) orient_coherent.r orient_coherent.n) (he:Ye P fe):CohC P f:=by
 intro l hl
 refine PureC.is (Q7 hm hf (Nat.le_of_ble_eq_true rfl) ?_) rfl
 unfold orient_coherent.c
 simp[go_sem,tsV]
 refine Qe (α:=Nat) (λk=>k<=l.length/\(Q8 (l.take k)).Nodup)
  (λk=>⟨[(3,.mp 0),(9,tsV l),(10,.i .i64 l.length),(11,.i .i64 k)],[.mp ((Jh (Q8 (l.take k))).map asV)]⟩)
  (λk=>l.length-k) 0 ⟨by omega,by simp[Q8]⟩ ?_ ?_
 ·simp[go_sem,tsV,Q8,Jh]
 ·rintro k ⟨hk,hnd⟩
  by_cases hkl:k=l.length
  ·subst hkl
   simp[go_sem,tsV,orient_coherent.r]
   rw[List.take_length]at hnd
   simp[Yv,hnd]
  ·have hlt:k<l.length:=by omega
   have hp:l[k]?=some l[k]:=List.getElem?_eq_getElem hlt
   generalize l[k]=t at hp
   obtain⟨_,hp'⟩:=List.getElem?_eq_some_iff.1 hp
   simp[go_sem,tsV,hlt,hp',tcs]
   refine Q3 (he t) ?_
   have hlen:(Q2 t).length<=3:=Qz t 3
   simp[go_sem,psV]
   refine Qe (α:=Nat) (λj=>j<=(Q2 t).length/\(Q8 (l.take k)++(Q2 t).take j).Nodup)
    (λj=>⟨[(3,.mp 0),(9,tsV l),(10,.i .i64 l.length),(11,.i .i64 k),(16,psV (Q2 t)),(17,.i .i64 (Q2 t).length),(18,.i .i64 j)],[.mp ((Jh (Q8 (l.take k)++(Q2 t).take j)).map asV)]⟩)
    (λj=>(Q2 t).length-j) 0 ⟨by omega,by simpa using hnd⟩ ?_ ?_
   ·simp[go_sem,tsV,psV]
    exact Zv _ 1
   ·rintro j ⟨hj,hnd2⟩
    by_cases hjl:j=(Q2 t).length
    ·subst hjl
     simp (disch:=omega) [go_sem,tsV,psV,Q0]
     rw[List.take_length]at hnd2
     exact⟨k+1,⟨by omega,by rw[Zz hp];exact hnd2⟩,by omega,by omega,by rw[Zz hp],Zv _ 1⟩
    ·have hjlt:j<(Q2 t).length:=by omega
     have hq:(Q2 t)[j]?=some (Q2 t)[j]:=List.getElem?_eq_getElem hjlt
     have htk:(Q2 t).take (j+1)=(Q2 t).take j++[(Q2 t)[j]]:=by rw[List.take_add_one,hq];rfl
     generalize (Q2 t)[j]=e at hq htk
     obtain⟨_,hq'⟩:=List.getElem?_eq_some_iff.1 hq
     have hpre:=coh_pre (l:=l) (k:=k) (S:=(Q2 t).take (j+1)) (by rw[hp];exact List.take_prefix _ _) hlt
     rw[htk,<- List.append_assoc]at hpre
     generalize hS:Q8 (l.take k)++(Q2 t).take j=S at hnd2 hpre
     by_cases hmem:e∈S
     ·obtain⟨i,hi⟩:=Ic hmem
      have h1:=Xb e (Jh S)
      rw[hi]at h1
      simp only[Option.map_some]at h1
      have h3:Qm [1,1] (V.a [V.i IntKind.i64 e.x,V.i IntKind.i64 e.y]) ((List.map asV (Jh S)).set i (V.a [V.i .i64 e.x,V.i .i64 e.y],V.i .i64 2))=some (some (i,.i .i64 2)):=by
       have:=Xb e ((Jh S).set i (e,2))
       rw[(U3 (n':=2) hi).2,List.map_set]at this
       exact this
      have hil:i<(Jh S).length:=(List.getElem?_eq_some_iff.1 (U3 (n':=2) hi).1).1
      have hil':i<(List.map asV (Jh S)).length:=by simpa using hil
      have w2:IntKind.i64.wrap 2=2:=rfl
      simp[go_sem,psV,hjlt,hq',pcs,h1,h3,w2,List.getElem?_set_self hil',List.set_set,orient_coherent.r]
      unfold Yv
      rw[decide_eq_false]
      intro hall
      have:=hall.sublist hpre.sublist
      rw[List.nodup_append]at this
      exact this.2.2 e hmem e (by simp) rfl
     ·have h1:=Xb e (Jh S)
      rw[Id hmem]at h1
      simp only[Option.map_none]at h1
      have w1:IntKind.i64.wrap 1=1:=rfl
      have h3:Qm [1,1] (V.a [V.i IntKind.i64 e.x,V.i IntKind.i64 e.y]) (List.map asV (Jh S)++[(V.a [V.i .i64 e.x,V.i .i64 e.y],V.i .i64 1)])=some (some ((Jh S).length,.i .i64 1)):=by
       have:=Xb e (Jh S++[(e,1)])
       rw[fnd_app (Id hmem),List.map_append]at this
       exact this
      simp[go_sem,psV,hjlt,hq',pcs,h1,h3,w1]
      have hS1:Q8 (l.take k)++(Q2 t).take (j+1)=S++[e]:=by rw[htk,<- List.append_assoc,hS]
      refine⟨j+1,⟨by omega,?_⟩,by omega,⟨.inr rfl,Q0 (by omega) (by omega)⟩,?_,Zv _ 1⟩
      ·rw[hS1,List.nodup_append]
       exact⟨hnd2,by simp,λa ha b hb=>by simp at hb;subst hb;rintro rfl;exact hmem ha⟩
      ·rw[hS1,ones_app,List.map_append];rfl
end
end Go.Abs
set_option linter.unusedVariables false
set_option linter.unusedSimpArgs false
namespace Go.Abs
def topo_counted.c (mesh_Check topo_edges:FuncId):C :=(.seq (.reg [⟨some 1,none,.box (.t 0)⟩,⟨some 2,none,.mv (.c .mnil)⟩]) (.seq (.reg [⟨some 8,none,.mkm none⟩,⟨some 3,none,.mv (.t 8)⟩]) (.seq (.seq (.reg [⟨some 9,none,.ld (some 2) (.t 1)⟩,⟨some 10,none,.call mesh_Check [.t 9]⟩,⟨some 11,none,.bin .neq (.t 10) (.c (.i .i64 0))⟩]) (.ite (.t 11) (.seq (.reg [⟨some 12,none,.mv (.t 3)⟩,⟨some 2,none,.mv (.t 12)⟩]) .ret) .skip)) (.seq (.seq (.reg [⟨some 13,none,.fa 1 (.t 1)⟩,⟨some 14,none,.ld none (.t 13)⟩,⟨some 15,none,.len 0 (.t 14)⟩,⟨some 16,none,.mv (.c (.i .i64 0))⟩]) (.blk 0 (.loop (.seq (.reg [
 ⟨some 17,none,.bin .lss (.t 16) (.t 15)⟩]) (.seq (.ite (.t 17) .skip (.exit 0)) (.seq (.blk 1 (.seq (.reg [⟨some 18,none,.ia 3 (.t 14) (.t 16)⟩,⟨some 19,none,.ld (some 3) (.t 18)⟩,⟨some 5,none,.alloc [(.i .i64 0),(.i .i64 0),(.i .i64 0)]⟩,⟨none,none,.st 3 (.t 5) (.t 19)⟩]) (.seq (.reg [⟨some 20,none,.ld (some 3) (.t 5)⟩,⟨some 21,none,.call topo_edges [.t 20]⟩,⟨some 22,none,.len 0 (.t 21)⟩,⟨some 23,none,.mv (.c (.i .i64 0))⟩]) (.blk 2 (.loop (.seq (.reg [⟨some 24,none,.bin .lss (.t 23) (.t 22)⟩]) (.seq (.ite (.t 24) .skip (.exit 2)) (.seq (.blk 3 (.seq (.reg [⟨some 25,none,.ia 2 (.t 21) (.t 23)⟩,
 ⟨some 26,none,.ld (some 2) (.t 25)⟩,⟨some 7,none,.alloc [(.i .i64 0),(.i .i64 0)]⟩,⟨none,none,.st 2 (.t 7) (.t 26)⟩]) (.reg [⟨some 27,none,.mv (.t 3)⟩,⟨some 28,none,.ld (some 2) (.t 7)⟩,⟨none,none,.eqa [1,1] false (.t 28) (.t 28)⟩,⟨some 29,none,.lk [1,1] (.i .i64 0) false (.t 27) (.t 28)⟩,⟨some 30,none,.bin .add (.t 29) (.c (.i .i64 1))⟩,⟨some 31,none,.ment [1,1] (.i .i64 0) (.t 27) (.t 28)⟩,⟨some 32,none,.ext (.t 31) 1⟩,⟨none,none,.est (.t 27) (.t 32) (.t 30)⟩]))) (.reg [⟨some 33,none,.bin .add (.t 23) (.c (.i .i64 1))⟩,⟨some 23,none,.mv (.t 33)⟩]))))))))) (.reg [⟨some 34,none,.bin .add (.t 16) (.c (.i .i64 1))⟩,
 ⟨some 16,none,.mv (.t 34)⟩]))))))) (.seq (.reg [⟨some 35,none,.mv (.t 3)⟩,⟨some 2,none,.mv (.t 35)⟩]) .ret)))))
def topo_counted.r:List Rr:=[.tmp 2]
abbrev topo_counted.n:Nat:=36
def topo_reverse.c:C :=(.seq (.reg [⟨some 1,none,.box (.t 0)⟩,⟨some 2,none,.alloc [(.i .i64 0),(.i .i64 0)]⟩]) (.seq (.reg [⟨some 3,none,.fa 1 (.t 1)⟩,⟨some 4,none,.ld none (.t 3)⟩,⟨some 5,none,.fa 0 (.t 1)⟩,⟨some 6,none,.ld none (.t 5)⟩,⟨some 7,none,.build [(.i .i64 0),(.i .i64 0)] [(0,1,(.t 4)),(1,1,(.t 6))]⟩,⟨none,none,.st 2 (.t 2) (.t 7)⟩]) .ret))
def topo_reverse.r:List Rr:=[.cell 2 (some 2)]
abbrev topo_reverse.n:Nat:=8
def topo_edges.c:C :=(.seq (.reg [⟨some 1,none,.box (.t 0)⟩,⟨some 2,none,.mv (.c .nil)⟩]) (.seq (.reg [⟨some 3,none,.mv (.c .nil)⟩]) (.seq (.seq (.reg [⟨some 6,none,.fa 0 (.t 1)⟩,⟨some 7,none,.ld none (.t 6)⟩,⟨some 8,none,.fa 1 (.t 1)⟩,⟨some 9,none,.ld none (.t 8)⟩,⟨some 10,none,.build [(.i .i64 0),(.i .i64 0)] [(0,1,(.t 7)),(1,1,(.t 9))]⟩,⟨some 11,none,.fa 1 (.t 1)⟩,⟨some 12,none,.ld none (.t 11)⟩,⟨some 13,none,.fa 2 (.t 1)⟩,⟨some 14,none,.ld none (.t 13)⟩,⟨some 15,none,.build [(.i .i64 0),(.i .i64 0)] [(0,1,(.t 12)),(1,1,(.t 14))]⟩,⟨some 16,none,.fa 2 (.t 1)⟩,⟨some 17,none,.ld none (.t 16)⟩,
 ⟨some 18,none,.fa 0 (.t 1)⟩,⟨some 19,none,.ld none (.t 18)⟩,⟨some 20,none,.build [(.i .i64 0),(.i .i64 0)] [(0,1,(.t 17)),(1,1,(.t 19))]⟩,⟨some 21,none,.build [(.i .i64 0),(.i .i64 0),(.i .i64 0),(.i .i64 0),(.i .i64 0),(.i .i64 0)] [(0,2,(.t 10)),(2,2,(.t 15)),(4,2,(.t 20))]⟩,⟨some 22,none,.mv (.c (.i .i64 0))⟩]) (.blk 0 (.loop (.seq (.reg [⟨some 23,none,.bin .lss (.t 22) (.c (.i .i64 3))⟩]) (.seq (.ite (.t 23) .skip (.exit 0)) (.seq (.blk 1 (.seq (.reg [⟨some 24,none,.ix 3 2 (some 2) (.t 21) (.t 22)⟩,⟨some 5,none,.alloc [(.i .i64 0),(.i .i64 0)]⟩,⟨none,none,.st 2 (.t 5) (.t 24)⟩]) (.seq (.reg [
 ⟨some 25,none,.fa 0 (.t 5)⟩,⟨some 26,none,.ld none (.t 25)⟩,⟨some 27,none,.fa 1 (.t 5)⟩,⟨some 28,none,.ld none (.t 27)⟩,⟨some 29,none,.bin .neq (.t 26) (.t 28)⟩]) (.ite (.t 29) (.reg [⟨some 30,none,.mv (.t 3)⟩,⟨some 31,none,.ld (some 2) (.t 5)⟩,⟨some 32,none,.bsi 2 1 [(.i .i64 0),(.i .i64 0)] [(0,(.t 31))]⟩,⟨some 33,none,.app 2 16 (.t 30) (.t 32)⟩,⟨some 3,none,.mv (.t 33)⟩]) .skip)))) (.reg [⟨some 34,none,.bin .add (.t 22) (.c (.i .i64 1))⟩,⟨some 22,none,.mv (.t 34)⟩]))))))) (.seq (.reg [⟨some 35,none,.mv (.t 3)⟩,⟨some 2,none,.mv (.t 35)⟩]) .ret))))
def topo_edges.r:List Rr:=[.tmp 2]
abbrev topo_edges.n:Nat:=36
def topo_undirected.c:C :=(.seq (.reg [⟨some 1,none,.box (.t 0)⟩,⟨some 2,none,.alloc [(.i .i64 0),(.i .i64 0)]⟩]) (.seq (.reg [⟨some 3,none,.fa 0 (.t 1)⟩,⟨some 4,none,.ld none (.t 3)⟩,⟨some 5,none,.fa 1 (.t 1)⟩,⟨some 6,none,.ld none (.t 5)⟩,⟨some 7,none,.mn [.t 4,.t 6]⟩,⟨some 8,none,.fa 0 (.t 1)⟩,⟨some 9,none,.ld none (.t 8)⟩,⟨some 10,none,.fa 1 (.t 1)⟩,⟨some 11,none,.ld none (.t 10)⟩,⟨some 12,none,.mx [.t 9,.t 11]⟩,⟨some 13,none,.build [(.i .i64 0),(.i .i64 0)] [(0,1,(.t 7)),(1,1,(.t 12))]⟩,⟨none,none,.st 2 (.t 2) (.t 13)⟩]) .ret))
def topo_undirected.r:List Rr:=[.cell 2 (some 2)]
abbrev topo_undirected.n:Nat:=14
def topo_order.c (cmp_Compare_int cmp_Or_int:FuncId):C :=(.seq (.reg [⟨some 2,none,.box (.t 0)⟩,⟨some 3,none,.box (.t 1)⟩,⟨some 4,none,.mv (.c (.i .i64 0))⟩]) (.seq (.drw [⟨some 5,none,.fa 0 (.t 2)⟩,⟨some 6,none,.ld none (.t 5)⟩,⟨some 7,none,.fa 0 (.t 3)⟩,⟨some 8,none,.ld none (.t 7)⟩,⟨some 9,none,.call cmp_Compare_int [.t 6,.t 8]⟩,⟨some 10,none,.fa 1 (.t 2)⟩,⟨some 11,none,.ld none (.t 10)⟩,⟨some 12,none,.fa 1 (.t 3)⟩,⟨some 13,none,.ld none (.t 12)⟩,⟨some 14,none,.call cmp_Compare_int [.t 11,.t 13]⟩,⟨some 15,none,.bsi 1 2 [(.i .i64 0)] [(0,(.t 9)),(1,(.t 14))]⟩,⟨some 16,none,.call cmp_Or_int [.t 15]⟩,
 ⟨some 4,none,.mv (.t 16)⟩] [[],[],[],[],[],[4],[4],[4],[4],[],[],[],[]]) .ret))
def topo_order.r:List Rr:=[.tmp 4]
abbrev topo_order.n:Nat:=17
def topo_Boundary.c (topo_counted topo_reverse slices_SortFunc_api_Edge_api_Edge topo_order:FuncId):C :=(.seq (.reg [⟨some 1,none,.box (.t 0)⟩,⟨some 2,none,.mv (.c .nil)⟩]) (.seq (.reg [⟨some 7,none,.ld (some 2) (.t 1)⟩,⟨some 8,none,.call topo_counted [.t 7]⟩,⟨some 3,none,.mv (.t 8)⟩]) (.seq (.reg [⟨some 4,none,.mv (.c .nil)⟩]) (.seq (.seq (.reg [⟨some 9,none,.mv (.t 3)⟩,⟨some 10,none,.mrng (.t 9)⟩]) (.blk 0 (.loop (.seq (.reg [⟨some 11,none,.mnx (.t 10)⟩,⟨some 12,none,.ext (.t 11) 0⟩]) (.seq (.ite (.t 12) .skip (.exit 0)) (.blk 1 (.seq (.reg [⟨some 13,none,.men (.t 10)⟩,⟨some 14,none,.ext (.t 13) 0⟩,
 ⟨some 15,none,.ext (.t 13) 1⟩,⟨some 5,none,.alloc [(.i .i64 0),(.i .i64 0)]⟩,⟨none,none,.st 2 (.t 5) (.t 14)⟩,⟨some 6,none,.mv (.t 15)⟩]) (.seq (.reg [⟨some 16,none,.mv (.t 6)⟩,⟨some 17,none,.mv (.t 3)⟩,⟨some 18,none,.ld (some 2) (.t 5)⟩,⟨some 19,none,.call topo_reverse [.t 18]⟩,⟨some 20,none,.lk [1,1] (.i .i64 0) false (.t 17) (.t 19)⟩,⟨some 21,none,.bin .gtr (.t 16) (.t 20)⟩]) (.ite (.t 21) (.reg [⟨some 22,none,.mv (.t 4)⟩,⟨some 23,none,.ld (some 2) (.t 5)⟩,⟨some 24,none,.bsi 2 1 [(.i .i64 0),(.i .i64 0)] [(0,(.t 23))]⟩,⟨some 25,none,.app 2 16 (.t 22) (.t 24)⟩,⟨some 4,none,.mv (.t 25)⟩]) .skip)))))))))
 (.seq (.reg [⟨some 26,none,.mv (.t 4)⟩,⟨some 27,none,.call slices_SortFunc_api_Edge_api_Edge [.t 26,(.c (.f topo_order []))]⟩]) (.seq (.reg [⟨some 28,none,.mv (.t 4)⟩,⟨some 2,none,.mv (.t 28)⟩]) .ret))))))
def topo_Boundary.r:List Rr:=[.tmp 2]
abbrev topo_Boundary.n:Nat:=29
def topo_Closed.c (mesh_Check topo_Boundary:FuncId):C :=(.seq (.reg [⟨some 1,none,.box (.t 0)⟩,⟨some 2,none,.mv (.c (.b false))⟩]) (.seq (.reg [⟨some 3,none,.ld (some 2) (.t 1)⟩,⟨some 4,none,.call mesh_Check [.t 3]⟩,⟨some 5,none,.bin .eql (.t 4) (.c (.i .i64 0))⟩,⟨some 6,none,.mv (.t 5)⟩,⟨some 7,(some (6,true)),.ld (some 2) (.t 1)⟩,⟨some 8,(some (6,true)),.call topo_Boundary [.t 7]⟩,⟨some 9,(some (6,true)),.len 0 (.t 8)⟩,⟨some 10,(some (6,true)),.bin .eql (.t 9) (.c (.i .i64 0))⟩,⟨some 11,none,.pick (.t 6) (.t 10) (.c (.b false))⟩,⟨some 2,none,.mv (.t 11)⟩]) .ret))
def topo_Closed.r:List Rr:=[.tmp 2]
abbrev topo_Closed.n:Nat:=12
def topo_Shells.c (mesh_Check topo_edges topo_undirected slices_Sort_int_int:FuncId):C :=(.seq (.reg [⟨some 1,none,.box (.t 0)⟩,⟨some 2,none,.mv (.c .nil)⟩]) (.seq (.seq (.reg [⟨some 17,none,.ld (some 2) (.t 1)⟩,⟨some 18,none,.call mesh_Check [.t 17]⟩,⟨some 19,none,.bin .neq (.t 18) (.c (.i .i64 0))⟩]) (.ite (.t 19) (.seq (.reg [⟨some 2,none,.mv (.c .nil)⟩]) .ret) .skip)) (.seq (.reg [⟨some 20,none,.mkm none⟩,⟨some 3,none,.mv (.t 20)⟩]) (.seq (.seq (.reg [⟨some 21,none,.fa 1 (.t 1)⟩,⟨some 22,none,.ld none (.t 21)⟩,⟨some 23,none,.len 0 (.t 22)⟩,⟨some 24,none,.mv (.c (.i .i64 0))⟩]) (.blk 0 (.loop
 (.seq (.reg [⟨some 25,none,.bin .lss (.t 24) (.t 23)⟩]) (.seq (.ite (.t 25) .skip (.exit 0)) (.seq (.blk 1 (.seq (.reg [⟨some 26,none,.mv (.t 24)⟩,⟨some 27,none,.ia 3 (.t 22) (.t 24)⟩,⟨some 28,none,.ld (some 3) (.t 27)⟩,⟨some 5,none,.alloc [(.i .i64 0),(.i .i64 0),(.i .i64 0)]⟩,⟨some 4,none,.mv (.t 26)⟩,⟨none,none,.st 3 (.t 5) (.t 28)⟩]) (.seq (.reg [⟨some 29,none,.ld (some 3) (.t 5)⟩,⟨some 30,none,.call topo_edges [.t 29]⟩,⟨some 31,none,.len 0 (.t 30)⟩,⟨some 32,none,.mv (.c (.i .i64 0))⟩]) (.blk 2 (.loop (.seq (.reg [⟨some 33,none,.bin .lss (.t 32) (.t 31)⟩]) (.seq (.ite (.t 33) .skip (.exit 2))
 (.seq (.blk 3 (.seq (.reg [⟨some 34,none,.ia 2 (.t 30) (.t 32)⟩,⟨some 35,none,.ld (some 2) (.t 34)⟩,⟨some 7,none,.alloc [(.i .i64 0),(.i .i64 0)]⟩,⟨none,none,.st 2 (.t 7) (.t 35)⟩]) (.drw [⟨some 36,none,.mv (.t 3)⟩,⟨some 37,none,.ld (some 2) (.t 7)⟩,⟨some 38,none,.call topo_undirected [.t 37]⟩,⟨some 39,none,.mv (.t 3)⟩,⟨some 40,none,.ld (some 2) (.t 7)⟩,⟨some 41,none,.call topo_undirected [.t 40]⟩,⟨some 42,none,.lk [1,1] .nil false (.t 39) (.t 41)⟩,⟨some 43,none,.mv (.t 4)⟩,⟨some 44,none,.bsi 1 1 [(.i .i64 0)] [(0,(.t 43))]⟩,⟨some 45,none,.app 1 8 (.t 42) (.t 44)⟩,⟨none,none,.mup [1,1] (.t 36) (.t 38) (.t 45)⟩] [[],[],[],[],[2],[],[],[],[],[],[]])))
 (.reg [⟨some 46,none,.bin .add (.t 32) (.c (.i .i64 1))⟩,⟨some 32,none,.mv (.t 46)⟩]))))))))) (.reg [⟨some 47,none,.bin .add (.t 24) (.c (.i .i64 1))⟩,⟨some 24,none,.mv (.t 47)⟩]))))))) (.seq (.reg [⟨some 8,none,.mv (.c .nil)⟩]) (.seq (.reg [⟨some 48,none,.fa 1 (.t 1)⟩,⟨some 49,none,.ld none (.t 48)⟩,⟨some 50,none,.len 0 (.t 49)⟩,⟨some 51,none,.mks 1 1 [(.b false)] (.t 50)⟩,⟨some 9,none,.mv (.t 51)⟩]) (.seq (.seq (.reg [⟨some 52,none,.fa 1 (.t 1)⟩,⟨some 53,none,.ld none (.t 52)⟩,⟨some 54,none,.len 0 (.t 53)⟩,⟨some 55,none,.mv (.c (.i .i64 0))⟩]) (.blk 4 (.loop (.seq (.reg [⟨some 56,none,.bin .lss (.t 55) (.t 54)⟩])
 (.seq (.ite (.t 56) .skip (.exit 4)) (.seq (.blk 5 (.seq (.reg [⟨some 57,none,.mv (.t 55)⟩,⟨some 10,none,.mv (.t 57)⟩]) (.seq (.seq (.reg [⟨some 58,none,.mv (.t 9)⟩,⟨some 59,none,.mv (.t 10)⟩,⟨some 60,none,.ia 1 (.t 58) (.t 59)⟩,⟨some 61,none,.ld none (.t 60)⟩]) (.ite (.t 61) (.exit 5) .skip)) (.seq (.reg [⟨some 62,none,.mv (.t 9)⟩,⟨some 63,none,.mv (.t 10)⟩,⟨some 64,none,.ia 1 (.t 62) (.t 63)⟩,⟨none,none,.st 1 (.t 64) (.c (.b true))⟩]) (.seq (.reg [⟨some 65,none,.mv (.t 10)⟩,⟨some 66,none,.bso 1 1 [(.i .i64 0)] [(0,(.t 65))]⟩,⟨some 11,none,.mv (.t 66)⟩]) (.seq (.seq (.reg [⟨some 12,none,.mv (.c (.i .i64 0))⟩])
 (.blk 6 (.loop (.seq (.seq (.reg [⟨some 67,none,.mv (.t 12)⟩,⟨some 68,none,.mv (.t 11)⟩,⟨some 69,none,.len 0 (.t 68)⟩,⟨some 70,none,.bin .lss (.t 67) (.t 69)⟩]) (.ite (.t 70) .skip (.exit 6))) (.seq (.blk 7 (.seq (.drw [⟨some 73,none,.fa 1 (.t 1)⟩,⟨some 74,none,.ld none (.t 73)⟩,⟨some 75,none,.mv (.t 11)⟩,⟨some 76,none,.mv (.t 12)⟩,⟨some 77,none,.ia 1 (.t 75) (.t 76)⟩,⟨some 78,none,.ld none (.t 77)⟩,⟨some 79,none,.ia 3 (.t 74) (.t 78)⟩,⟨some 80,none,.ld (some 3) (.t 79)⟩,⟨some 81,none,.call topo_edges [.t 80]⟩,⟨some 82,none,.len 0 (.t 81)⟩,⟨some 83,none,.mv (.c (.i .i64 0))⟩] []) (.blk 8 (.loop
 (.seq (.reg [⟨some 84,none,.bin .lss (.t 83) (.t 82)⟩]) (.seq (.ite (.t 84) .skip (.exit 8)) (.seq (.blk 9 (.seq (.reg [⟨some 85,none,.ia 2 (.t 81) (.t 83)⟩,⟨some 86,none,.ld (some 2) (.t 85)⟩,⟨some 14,none,.alloc [(.i .i64 0),(.i .i64 0)]⟩,⟨none,none,.st 2 (.t 14) (.t 86)⟩]) (.seq (.reg [⟨some 87,none,.mv (.t 3)⟩,⟨some 88,none,.ld (some 2) (.t 14)⟩,⟨some 89,none,.call topo_undirected [.t 88]⟩,⟨some 90,none,.lk [1,1] .nil false (.t 87) (.t 89)⟩,⟨some 91,none,.len 0 (.t 90)⟩,⟨some 92,none,.mv (.c (.i .i64 0))⟩]) (.blk 10 (.loop (.seq (.reg [⟨some 93,none,.bin .lss (.t 92) (.t 91)⟩]) (.seq (.ite (.t 93)
 .skip (.exit 10)) (.seq (.blk 11 (.seq (.reg [⟨some 94,none,.ia 1 (.t 90) (.t 92)⟩,⟨some 95,none,.ld none (.t 94)⟩,⟨some 16,none,.mv (.t 95)⟩]) (.seq (.reg [⟨some 96,none,.mv (.t 9)⟩,⟨some 97,none,.mv (.t 16)⟩,⟨some 98,none,.ia 1 (.t 96) (.t 97)⟩,⟨some 99,none,.ld none (.t 98)⟩,⟨some 100,none,.un .not (.t 99)⟩]) (.ite (.t 100) (.seq (.reg [⟨some 101,none,.mv (.t 9)⟩,⟨some 102,none,.mv (.t 16)⟩,⟨some 103,none,.ia 1 (.t 101) (.t 102)⟩,⟨none,none,.st 1 (.t 103) (.c (.b true))⟩]) (.reg [⟨some 104,none,.mv (.t 11)⟩,⟨some 105,none,.mv (.t 16)⟩,⟨some 106,none,.bsi 1 1 [(.i .i64 0)] [(0,(.t 105))]⟩,⟨some 107,none,.app 1 8 (.t 104) (.t 106)⟩,
 ⟨some 11,none,.mv (.t 107)⟩])) .skip)))) (.reg [⟨some 108,none,.bin .add (.t 92) (.c (.i .i64 1))⟩,⟨some 92,none,.mv (.t 108)⟩]))))))))) (.reg [⟨some 109,none,.bin .add (.t 83) (.c (.i .i64 1))⟩,⟨some 83,none,.mv (.t 109)⟩])))))))) (.reg [⟨some 71,none,.mv (.t 12)⟩,⟨some 72,none,.bin .add (.t 71) (.c (.i .i64 1))⟩,⟨some 12,none,.mv (.t 72)⟩])))))) (.seq (.reg [⟨some 110,none,.mv (.t 11)⟩,⟨some 111,none,.call slices_Sort_int_int [.t 110]⟩]) (.reg [⟨some 112,none,.mv (.t 8)⟩,⟨some 113,none,.mv (.t 11)⟩,⟨some 114,none,.bso 1 1 [.nil] [(0,(.t 113))]⟩,⟨some 115,none,.app 1 24 (.t 112) (.t 114)⟩,⟨some 8,none,.mv (.t 115)⟩]))))))))
 (.reg [⟨some 116,none,.bin .add (.t 55) (.c (.i .i64 1))⟩,⟨some 55,none,.mv (.t 116)⟩]))))))) (.seq (.reg [⟨some 117,none,.mv (.t 8)⟩,⟨some 2,none,.mv (.t 117)⟩]) .ret))))))))
def topo_Shells.r:List Rr:=[.tmp 2]
abbrev topo_Shells.n:Nat:=118
end Go.Abs
set_option linter.unusedVariables false
set_option linter.unusedSimpArgs false
namespace Go.Abs
theorem Kz {α:Type} {p:List α->Prop} (h0:p []) (h1:∀E x,p E->p (E++[x])) (E:List α):p E:=by
 rw[<- E.reverse_reverse]
 induction E.reverse with
 | nil=>exact h0
 | cons x l ih=>rw[List.reverse_cons];exact h1 _ _ ih
def addE (L:List (P2 × Int)) (e:P2):List (P2 × Int) :=
 match fnd e L with
 | some (i,n)=>L.set i (e,n+1)
 | none=>L++[(e,1)]
def Ys (E:List P2):List (P2 × Int):=E.foldl addE []
theorem Ww (E:List P2) (e:P2):Ys (E++[e])=addE (Ys E) e:=by simp[Ys]
def val (e:P2) (L:List (P2 × Int)):Int:=match fnd e L with | some (_,n)=>n | none=>0
theorem fnd_set_ne {e e':P2} (hne:e'≠e) {n':Int}:∀{L:List (P2 × Int)} {i:Nat} {n:Int},fnd e L=some (i,n)->fnd e' (L.set i (e,n'))=fnd e' L
 | [],i,n,h=>by simp[fnd]at h
 | (k,m)::r,i,n,h=>by
   simp only[fnd]at h
   by_cases hk:e=k
   ·simp[hk]at h
    obtain⟨rfl,rfl⟩:=h
    subst hk
    simp[fnd,hne]
   ·simp only[hk,if_false,Option.map_eq_some_iff,Prod.mk.injEq]at h
    obtain⟨⟨j,n1⟩,hj,rfl,rfl⟩:=h
    have:=fnd_set_ne (n':=n') hne hj
    simp only[List.set_cons_succ,fnd,this]
theorem fnd_app_ne {e e':P2} (hne:e'≠e) {n:Int}:∀{L:List (P2 × Int)},fnd e' (L++[(e,n)])=fnd e' L
 | []=>by simp[fnd,hne]
 | (k,m)::r=>by
   simp only[List.cons_append,fnd,fnd_app_ne hne]
theorem val_addE (L:List (P2 × Int)) (e e':P2):val e' (addE L e)=val e' L+if e'=e then 1 else 0:=by
 unfold addE
 cases h:fnd e L with
 | none =>
   simp only
   by_cases he:e'=e
   ·subst he
    simp only[val,fnd_app h,h,if_true];omega
   ·simp only[val,fnd_app_ne he,he,if_false];omega
 | some p =>
   obtain⟨i,n⟩:=p
   simp only
   by_cases he:e'=e
   ·subst he
    simp only[val,(U3 (n':=n+1) h).2,h,if_true]
   ·simp only[val,fnd_set_ne he h,he,if_false];omega
theorem val_tally (E:List P2) (e:P2):val e (Ys E)=E.count e:=by
 refine Kz (p:=λE=>val e (Ys E)=E.count e) ?_ ?_ E
 ·rfl
 ·intro E x ih
  rw[Ww,val_addE,ih,List.count_append,List.count_singleton]
  by_cases h:e=x
  ·subst h;simp
  ·have:¬ x=e:=λhh=>h hh.symm
   simp[h,this]
theorem keys_set {L:List (P2 × Int)} {i:Nat} {e:P2} {n n':Int} (h:L[i]?=some (e,n)):(L.set i (e,n')).map Prod.fst=L.map Prod.fst:=by
 rw[List.map_set]
 apply List.ext_getElem?
 intro j
 by_cases hj:i=j
 ·subst hj
  have:=(List.getElem?_eq_some_iff.1 h).1
  rw[List.getElem?_set_self (by simpa using this)]
  simp[h]
 ·rw[List.getElem?_set_ne hj]
theorem keys_addE (L:List (P2 × Int)) (e:P2):(addE L e).map Prod.fst=if (fnd e L).isSome then L.map Prod.fst else L.map Prod.fst++[e]:=by
 unfold addE
 cases h:fnd e L with
 | none=>simp
 | some p =>
   obtain⟨i,n⟩:=p
   simp only[Option.isSome_some,if_true]
   exact keys_set (U3 (n':=n) h).1
theorem fnd_keys {e:P2} {L:List (P2 × Int)}:fnd e L=none↔e∉L.map Prod.fst:=by
 rw[fnd_none]
 constructor
 ·rintro h hm
  obtain⟨p,hp,rfl⟩:=List.mem_map.1 hm
  exact h p hp rfl
 ·rintro h p hp rfl
  exact h (List.mem_map_of_mem hp)
theorem Wx (E:List P2):((Ys E).map Prod.fst).Nodup/\∀e,e∈(Ys E).map Prod.fst↔e∈E:=by
 refine Kz (p:=λE=>((Ys E).map Prod.fst).Nodup/\∀e,e∈(Ys E).map Prod.fst↔e∈E) ?_ ?_ E
 ·simp[Ys]
 ·intro E x ih
  rw[Ww,keys_addE]
  cases h:fnd x (Ys E) with
  | none =>
    have h':=fnd_keys.1 h
    simp only[Option.isSome_none,Bool.false_eq_true,if_false]
    refine⟨?_,λe=>?_⟩
    ·rw[List.nodup_append]
     exact⟨ih.1,by simp,λa ha b hb=>by simp at hb;subst hb;rintro rfl;exact h' ha⟩
    ·rw[List.mem_append,ih.2,List.mem_append]
  | some p =>
    have h':x∈(Ys E).map Prod.fst:=Decidable.byContradiction λhh=>by rw[fnd_keys.2 hh]at h;simp at h
    simp only[Option.isSome_some,if_true]
    refine⟨ih.1,λe=>?_⟩
    rw[ih.2,List.mem_append]
    constructor
    ·exact .inl
    ·rintro (h2 | h2)
     ·exact h2
     ·simp at h2;subst h2;exact(ih.2 e).1 h'
theorem Kn:∀{L:List (P2 × Int)} {i:Nat} {e:P2} {n:Int},(L.map Prod.fst).Nodup->L[i]?=some (e,n)->fnd e L=some (i,n)
 | [],i,e,n,_,h=>by simp at h
 | (k,m)::r,0,e,n,_,h=>by simp at h;obtain⟨rfl,rfl⟩:=h;simp[fnd]
 | (k,m)::r,i+1,e,n,hn,h=>by
   simp only[List.map_cons,List.nodup_cons]at hn
   simp only[List.getElem?_cons_succ]at h
   have hk:¬ e=k:=by
    rintro rfl
    exact hn.1 (List.mem_map.2 ⟨(e,n),List.mem_of_getElem? h,rfl⟩)
   simp[fnd,hk,Kn hn.2 h]
theorem tally_get {E:List P2} {i:Nat} {e:P2} {n:Int} (h:(Ys E)[i]?=some (e,n)):e∈E/\n=E.count e:=by
 have hk:=Wx E
 refine⟨(hk.2 e).1 (List.mem_map.2 ⟨(e,n),List.mem_of_getElem? h,rfl⟩),?_⟩
 have:=val_tally E e
 rw[val,Kn hk.1 h]at this
 exact this
theorem tally_of {E:List P2} {e:P2} (h:e∈E):∃i:Nat,(Ys E)[i]?=some (e,(E.count e:Int)):=by
 obtain⟨p,hp,rfl⟩:=List.mem_map.1 (((Wx E).2 e).2 h)
 obtain⟨i,hi⟩:=List.getElem?_of_mem hp
 refine⟨i,?_⟩
 rw[hi]
 have:=(tally_get (e:=p.1) (n:=p.2) hi).2
 rw[<- this]
def left (n:Nat) (seen:List Nat):Nat:=((List.range n).filter λi=>!seen.contains i).length
theorem left_lt {n i:Nat} {seen:List Nat} (hi:i<n) (hs:i∉seen):left n (seen++[i])<left n seen:=by
 have h:(List.range n).filter (λj=>!(seen++[i]).contains j)=((List.range n).filter λj=>!seen.contains j).filter (λj=>!(j == i)):=by
  rw[List.filter_filter]
  congr 1
  funext j
  by_cases h1:j∈seen<;>by_cases h2:j=i<;>simp[h1,h2]
 unfold left
 rw[h,List.length_filter_lt_length_iff_exists]
 exact⟨i,by simp[hi,hs],by simp⟩
def P2.lt (a b:P2):Prop:=a.x<b.x∨(a.x=b.x/\a.y<b.y)
instance (a b:P2):Decidable (P2.lt a b):=by unfold P2.lt;infer_instance
theorem P2.lt_irrefl (a:P2):¬ P2.lt a a:=by unfold P2.lt;omega
theorem P2.lt_trans {a b c:P2} (h1:P2.lt a b) (h2:P2.lt b c):P2.lt a c:=by unfold P2.lt at *;omega
theorem P2.lt_total {a b:P2} (h:¬ P2.lt a b) (h':¬ P2.lt b a):a=b:=by
 unfold P2.lt at *
 have h1:a.x=b.x:=by omega
 have h2:a.y=b.y:=by omega
 cases a;cases b;simp_all
theorem P2.lt_asymm {a b:P2} (h1:P2.lt a b):¬ P2.lt b a:=by unfold P2.lt at *;omega
def asc (l:List P2):Prop:=l.Pairwise P2.lt
theorem asc_ext:∀{l1 l2:List P2},asc l1->asc l2->(∀a,a∈l1↔a∈l2)->l1=l2
 | [],[],_,_,_=>rfl
 | [],y::l2,_,_,h=>by have:=(h y).2 (by simp);simp at this
 | x::l1,[],_,_,h=>by have:=(h x).1 (by simp);simp at this
 | x::l1,y::l2,h1,h2,h=>by
   have p1:=List.pairwise_cons.1 h1
   have p2:=List.pairwise_cons.1 h2
   have hxy:x=y:=by
    rcases List.mem_cons.1 ((h x).1 (by simp)) with h3 | h3
    ·exact h3
    ·rcases List.mem_cons.1 ((h y).2 (by simp)) with h4 | h4
     ·exact h4.symm
     ·exact absurd (p2.1 x h3) (P2.lt_asymm (p1.1 y h4))
   subst hxy
   rw[asc_ext p1.2 p2.2 λa=>?_]
   constructor
   ·intro ha
    rcases List.mem_cons.1 ((h a).1 (by simp[ha])) with h3 | h3
    ·subst h3;exact absurd (p1.1 a ha) (P2.lt_irrefl a)
    ·exact h3
   ·intro ha
    rcases List.mem_cons.1 ((h a).2 (by simp[ha])) with h3 | h3
    ·subst h3;exact absurd (p2.1 a ha) (P2.lt_irrefl a)
    ·exact h3
def insP (e:P2):List P2->List P2
 | []=>[e]
 | x::l=>if e=x then x::l else if P2.lt e x then e::x::l else x::insP e l
theorem mem_insP {e a:P2}:∀{l:List P2},a∈insP e l↔a=e∨a∈l
 | []=>by simp[insP]
 | x::l=>by
   simp only[insP]
   split
   ·rename_i h;subst h;simp
   ·split
    ·simp
    ·simp[mem_insP];constructor<;>(rintro (h | h | h)<;>simp[h])
theorem insP_asc {e:P2}:∀{l:List P2},asc l->asc (insP e l)
 | [],_=>by simp[insP,asc]
 | x::l,h=>by
   have hc:=List.pairwise_cons.1 h
   simp only[insP]
   split
   ·exact h
   ·split
    ·rename_i h1 h2
     refine List.pairwise_cons.2 ⟨λb hb=>?_,h⟩
     rcases List.mem_cons.1 hb with rfl | hb
     ·exact h2
     ·exact P2.lt_trans h2 (hc.1 b hb)
    ·rename_i h1 h2
     refine List.pairwise_cons.2 ⟨λb hb=>?_,insP_asc hc.2⟩
     rcases mem_insP.1 hb with rfl | hb
     ·exact Decidable.byContradiction λh3=>h1 (P2.lt_total h2 h3)
     ·exact hc.1 b hb
def W3 (l:List P2):List P2:=l.foldr insP []
theorem K9 (l:List P2):asc (W3 l):=by
 induction l with
 | nil=>simp[W3,asc]
 | cons x l ih=>exact insP_asc ih
theorem mem_ascOf {l:List P2} {a:P2}:a∈W3 l↔a∈l:=by
 induction l with
 | nil=>simp[W3]
 | cons x l ih=>simp only[W3,List.foldr_cons,mem_insP,List.mem_cons];rw[<- ih];rfl
theorem asc_of_perm {ys xs:List P2} (hp:ys.Perm xs) (hn:xs.Nodup) (hs:ys.Pairwise λa b=>¬ P2.lt b a):ys=W3 xs:=by
 refine asc_ext ?_ (K9 xs) λa=>by rw[hp.mem_iff,mem_ascOf]
 have hn':ys.Nodup:=hp.symm.nodup hn
 exact(List.Pairwise.and hs hn').imp λh=>Decidable.byContradiction λh3=>h.2 (P2.lt_total h3 h.1)
end Go.Abs
