/- Part of the library on which the proof stands: an abstract machine, its values and its soundness against the model; or what functions of the program do to such values. -/
import Derived.Test.YtnaehggpjfdenaaGreatGoTo
import Derived.Test.YtnaehggpjfdenaaGreatAbsSS
import Derived.Test.YtnaehggpjfdenaaGreatGoSecD
set_option linter.unusedVariables false
set_option linter.unusedSimpArgs false
set_option maxHeartbeats 4000000
namespace Go.Abs
theorem Q29 {α:Type} {p:List α->Prop} (h0:p []) (h1:∀E x,p E->p (E++[x])) (E:List α):p E:=by
 rw[<- E.reverse_reverse]
 induction E.reverse with
 | nil=>exact h0
 | cons x l ih=>rw[List.reverse_cons];exact h1 _ _ ih
def Qcc (L:List (P2 × Int)) (e:P2):List (P2 × Int) :=
 match fnd e L with
 | some (i,n)=>L.set i (e,n+1)
 | none=>L++[(e,1)]
def Yc (E:List P2):List (P2 × Int):=E.foldl Qcc []
theorem Ki (E:List P2) (e:P2):Yc (E++[e])=Qcc (Yc E) e:=by simp[Yc]
def val (e:P2) (L:List (P2 × Int)):Int:=match fnd e L with | some (_,n)=>n | none=>0
theorem Q44 {e e':P2} (hne:e'≠e) {n':Int}:∀{L:List (P2 × Int)} {i:Nat} {n:Int},fnd e L=some (i,n)->fnd e' (L.set i (e,n'))=fnd e' L
 | [],i,n,h=>by simp[fnd]at h
 | (k,m)::r,i,n,h=>by
   simp only[fnd]at h
   by_cases hk:e=k
   ·simp[hk]at h
    obtain⟨rfl,rfl⟩:=h
    subst hk
    simp[fnd,hne]
   ·simp only[hk,if_false,qd,Prod.mk.injEq]at h
    obtain⟨⟨j,n1⟩,hj,rfl,rfl⟩:=h
    have:=Q44 (n':=n') hne hj
    simp only[List.set_cons_succ,fnd,this]
theorem Q46 {e e':P2} (hne:e'≠e) {n:Int}:∀{L:List (P2 × Int)},fnd e' (L++[(e,n)])=fnd e' L
 | []=>by simp[fnd,hne]
 | (k,m)::r=>by
   simp only[List.cons_append,fnd,Q46 hne]
theorem Qkk (L:List (P2 × Int)) (e e':P2):val e' (Qcc L e)=val e' L+if e'=e then 1 else 0:=by
 unfold Qcc
 cases h:fnd e L with
 | none =>
   simp only
   by_cases he:e'=e
   ·subst he
    simp only[val,Q8h h,h,if_true];omega
   ·simp only[val,Q46 he,he,if_false];omega
 | some p =>
   obtain⟨i,n⟩:=p
   simp only
   by_cases he:e'=e
   ·subst he
    simp only[val,(Kq (n':=n+1) h).2,h,if_true]
   ·simp only[val,Q44 he h,he,if_false];omega
theorem Bi (E:List P2) (e:P2):val e (Yc E)=E.count e:=by
 refine Q29 (p:=λE=>val e (Yc E)=E.count e) ?_ ?_ E
 ·rfl
 ·intro E x ih
  rw[Ki,Qkk,ih,List.count_append,List.count_singleton]
  by_cases h:e=x
  ·subst h;simp
  ·have:¬ x=e:=λhh=>h hh.symm
   simp[h,this]
theorem Qmf {L:List (P2 × Int)} {i:Nat} {e:P2} {n n':Int} (h:L[i]?=some (e,n)):(L.set i (e,n')).map Prod.fst=L.map Prod.fst:=by
 rw[List.map_set]
 apply qz
 intro j
 by_cases hj:i=j
 ·subst hj
  have:=(qa.1 h).1
  rw[qo (by simpa using this)]
  simp[h]
 ·rw[qv hj]
theorem Qim (L:List (P2 × Int)) (e:P2):(Qcc L e).map Prod.fst=if (fnd e L).isSome then L.map Prod.fst else L.map Prod.fst++[e]:=by
 unfold Qcc
 cases h:fnd e L with
 | none=>simp
 | some p =>
   obtain⟨i,n⟩:=p
   simp only[Option.isSome_some,if_true]
   exact Qmf (Kq (n':=n) h).1
theorem fnd_keys {e:P2} {L:List (P2 × Int)}:fnd e L=none↔e∉L.map Prod.fst:=by
 rw[Q45]
 constructor
 ·rintro h hm
  obtain⟨p,hp,rfl⟩:=qq.1 hm
  exact h p hp rfl
 ·rintro h p hp rfl
  exact h (List.mem_map_of_mem hp)
theorem Kj (E:List P2):((Yc E).map Prod.fst).Nodup/\∀e,e∈(Yc E).map Prod.fst↔e∈E:=by
 refine Q29 (p:=λE=>((Yc E).map Prod.fst).Nodup/\∀e,e∈(Yc E).map Prod.fst↔e∈E) ?_ ?_ E
 ·simp[Yc]
 ·intro E x ih
  rw[Ki,Qim]
  cases h:fnd x (Yc E) with
  | none =>
    have h':=fnd_keys.1 h
    simp only[Option.isSome_none,Bool.false_eq_true,if_false]
    refine⟨?_,λe=>?_⟩
    ·rw[List.nodup_append]
     exact⟨ih.1,by simp,λa ha b hb=>by simp at hb;subst hb;rintro rfl;exact h' ha⟩
    ·rw[qi,ih.2,qi]
  | some p =>
    have h':x∈(Yc E).map Prod.fst:=j9 λhh=>by rw[fnd_keys.2 hh]at h;simp at h
    simp only[Option.isSome_some,if_true]
    refine⟨ih.1,λe=>?_⟩
    rw[ih.2,qi]
    constructor
    ·exact .inl
    ·rintro (h2 | h2)
     ·exact h2
     ·simp at h2;subst h2;exact(ih.2 e).1 h'
theorem Kr:∀{L:List (P2 × Int)} {i:Nat} {e:P2} {n:Int},(L.map Prod.fst).Nodup->L[i]?=some (e,n)->fnd e L=some (i,n)
 | [],i,e,n,_,h=>by simp at h
 | (k,m)::r,0,e,n,_,h=>by simp at h;obtain⟨rfl,rfl⟩:=h;simp[fnd]
 | (k,m)::r,i+1,e,n,hn,h=>by
   simp only[List.map_cons,List.nodup_cons]at hn
   simp only[List.getElem?_cons_succ]at h
   have hk:¬ e=k:=by
    rintro rfl
    exact hn.1 (qq.2 ⟨(e,n),qe h,rfl⟩)
   simp[fnd,hk,Kr hn.2 h]
theorem Q60 {E:List P2} {i:Nat} {e:P2} {n:Int} (h:(Yc E)[i]?=some (e,n)):e∈E/\n=E.count e:=by
 have hk:=Kj E
 refine⟨(hk.2 e).1 (qq.2 ⟨(e,n),qe h,rfl⟩),?_⟩
 have:=Bi E e
 rw[val,Kr hk.1 h]at this
 exact this
theorem Qkq {E:List P2} {e:P2} (h:e∈E):∃i:Nat,(Yc E)[i]?=some (e,(E.count e:Int)):=by
 obtain⟨p,hp,rfl⟩:=qq.1 (((Kj E).2 e).2 h)
 obtain⟨i,hi⟩:=qt hp
 refine⟨i,?_⟩
 rw[hi]
 have:=(Q60 (e:=p.1) (n:=p.2) hi).2
 rw[<- this]
def left (n:Nat) (seen:List Nat):Nat:=((List.range n).filter λi=>!seen.contains i).length
theorem Qg1 {n i:Nat} {seen:List Nat} (hi:i<n) (hs:i∉seen):left n (seen++[i])<left n seen:=by
 have h:(List.range n).filter (λj=>!(seen++[i]).contains j)=((List.range n).filter λj=>!seen.contains j).filter (λj=>!(j == i)):=by
  rw[List.filter_filter]
  congr 1
  funext j
  by_cases h1:j∈seen<;>by_cases h2:j=i<;>simp[h1,h2]
 unfold left
 rw[h,List.length_filter_lt_length_iff_exists]
 exact⟨i,by simp[hi,hs],by simp⟩
def P2.lt (a b:P2):Prop:=a.x<b.x∨(a.x=b.x/\a.y<b.y)
instance (a b:P2):Decidable (P2.lt a b):=by unfold P2.lt;infer_instance
theorem P2.lt_irrefl (a:P2):¬ P2.lt a a:=by unfold P2.lt;omega
theorem P2.lt_trans {a b c:P2} (h1:P2.lt a b) (h2:P2.lt b c):P2.lt a c:=by unfold P2.lt at *;omega
theorem P2.lt_total {a b:P2} (h:¬ P2.lt a b) (h':¬ P2.lt b a):a=b:=by
 unfold P2.lt at *
 have h1:a.x=b.x:=by omega
 have h2:a.y=b.y:=by omega
 cases a;cases b;simp_all
theorem P2.lt_asymm {a b:P2} (h1:P2.lt a b):¬ P2.lt b a:=by unfold P2.lt at *;omega
def asc (l:List P2):Prop:=l.Pairwise P2.lt
theorem Q97:∀{l1 l2:List P2},asc l1->asc l2->(∀a,a∈l1↔a∈l2)->l1=l2
 | [],[],_,_,_=>rfl
 | [],y::l2,_,_,h=>by have:=(h y).2 (by simp);simp at this
 | x::l1,[],_,_,h=>by have:=(h x).1 (by simp);simp at this
 | x::l1,y::l2,h1,h2,h=>by
   have p1:=jb.1 h1
   have p2:=jb.1 h2
   have hxy:x=y:=by
    rcases List.mem_cons.1 ((h x).1 (by simp)) with h3 | h3
    ·exact h3
    ·rcases List.mem_cons.1 ((h y).2 (by simp)) with h4 | h4
     ·exact h4.symm
     ·exact absurd (p2.1 x h3) (P2.lt_asymm (p1.1 y h4))
   subst hxy
   rw[Q97 p1.2 p2.2 λa=>?_]
   constructor
   ·intro ha
    rcases List.mem_cons.1 ((h a).1 (by simp[ha])) with h3 | h3
    ·subst h3;exact absurd (p1.1 a ha) (P2.lt_irrefl a)
    ·exact h3
   ·intro ha
    rcases List.mem_cons.1 ((h a).2 (by simp[ha])) with h3 | h3
    ·subst h3;exact absurd (p2.1 a ha) (P2.lt_irrefl a)
    ·exact h3
def Qbc (e:P2):List P2->List P2
 | []=>[e]
 | x::l=>if e=x then x::l else if P2.lt e x then e::x::l else x::Qbc e l
theorem mem_insP {e a:P2}:∀{l:List P2},a∈Qbc e l↔a=e∨a∈l
 | []=>by simp[Qbc]
 | x::l=>by
   simp only[Qbc]
   split
   ·rename_i h;subst h;simp
   ·split
    ·simp
    ·simp[mem_insP];constructor<;>(rintro (h | h | h)<;>simp[h])
theorem Qbb {e:P2}:∀{l:List P2},asc l->asc (Qbc e l)
 | [],_=>by simp[Qbc,asc]
 | x::l,h=>by
   have hc:=jb.1 h
   simp only[Qbc]
   split
   ·exact h
   ·split
    ·rename_i h1 h2
     refine jb.2 ⟨λb hb=>?_,h⟩
     rcases List.mem_cons.1 hb with rfl | hb
     ·exact h2
     ·exact P2.lt_trans h2 (hc.1 b hb)
    ·rename_i h1 h2
     refine jb.2 ⟨λb hb=>?_,Qbb hc.2⟩
     rcases mem_insP.1 hb with rfl | hb
     ·exact j9 λh3=>h1 (P2.lt_total h2 h3)
     ·exact hc.1 b hb
def Ws (l:List P2):List P2:=l.foldr Qbc []
theorem Ud (l:List P2):asc (Ws l):=by
 induction l with
 | nil=>simp[Ws,asc]
 | cons x l ih=>exact Qbb ih
theorem U0 {l:List P2} {a:P2}:a∈Ws l↔a∈l:=by
 induction l with
 | nil=>simp[Ws]
 | cons x l ih=>simp only[Ws,List.foldr_cons,mem_insP,List.mem_cons];rw[<- ih];rfl
theorem Qc9 {ys xs:List P2} (hp:ys.Perm xs) (hn:xs.Nodup) (hs:ys.Pairwise λa b=>¬ P2.lt b a):ys=Ws xs:=by
 refine Q97 ?_ (Ud xs) λa=>by rw[hp.mem_iff,U0]
 have hn':ys.Nodup:=hp.symm.nodup hn
 exact(List.Pairwise.and hs hn').imp λh=>j9 λh3=>h.2 (P2.lt_total h3 h.1)
def L00.c (L02:FuncId):C :=(.seq (.reg [Ac 4 0]) (.seq (.reg [Am 7 0,Au 8 (.call L02 [.t 7]),Am 5 8]) (.seq (.reg [Am 9 1,Au 10 (.call L02 [.t 9]),Am 6 10]) (.seq (.seq (.reg [Am 11 5]) (.ite (.t 11) (.seq (.seq (.reg [Am 12 6]) (.ite (.t 12) (.seq (.reg [Ac 4 0]) .ret) .skip)) (.seq (.reg [Ac 4 (-1)]) .ret)) .skip)) (.seq (.seq (.reg [Am 13 6]) (.ite (.t 13) (.seq (.reg [Ac 4 1]) .ret) .skip)) (.seq (.seq (.reg [Am 14 0,Am 15 1,Aj .lss 16 14 15]) (.ite (.t 16) (.seq (.reg [Ac 4 (-1)]) .ret) .skip)) (.seq (.seq (.reg [Am 17 0,Am 18 1,Aj .gtr 19 17 18]) (.ite (.t 19) (.seq (.reg [Ac 4 1]) .ret)
 .skip)) (.seq (.reg [Ac 4 0]) .ret))))))))
def L00.r:List Rr:=[.tmp 4]
abbrev L00.n:Nat:=20
def L02.c:C :=(.seq (.reg [Ab 2 false]) (.seq (.reg [Am 3 0,Am 4 0,Aj .neq 5 3 4,Am 2 5]) .ret))
def L02.r:List Rr:=[.tmp 2]
abbrev L02.n:Nat:=6
def L01.c:C :=(.seq (.reg [Ac 2 0]) (.seq (.reg [Ac 3 0]) (.seq (.seq (.reg [Am 6 0,An 7 0 6,Ac 8 0]) (.blk 0 (.loop (.seq (.reg [Aj .lss 9 8 7]) (.seq (.ite (.t 9) .skip (.exit 0)) (.seq (.blk 1 (.seq (.reg [Ai 10 1 6 8,Al 11 10,Am 5 11]) (.seq (.reg [Am 12 5,Am 13 3,Aj .neq 14 12 13]) (.ite (.t 14) (.seq (.reg [Am 15 5,Am 2 15]) .ret) .skip)))) (.reg [Ad 16 8 1,Am 8 16]))))))) (.seq (.reg [Am 17 3,Am 2 17]) .ret))))
def L01.r:List Rr:=[.tmp 2]
abbrev L01.n:Nat:=18
def Eu (x y:Int):Int:=if x<y then -1 else if y<x then 1 else 0
def CmpC (P:Program) (f:FuncId):Prop:=∀x y:Int,CallIs P f [.i .i64 x,.i .i64 y] (.i .i64 (Eu x y))
def NaNC (P:Program) (f:FuncId):Prop:=∀x:Int,CallIs P f [.i .i64 x] (.b false)
theorem cmpI_lt (x y:Int):decide (Eu x y<0)=decide (x<y):=by
 unfold Eu
 by_cases h1:x<y
 ·simp[h1]
 ·by_cases h2:y<x<;>simp[h1,h2]
section
variable {P:Program} (hm:P.follows .mixedOrders=true)
include hm
theorem Qn3 {f:FuncId} (hf:Q9 P f L02.c L02.r L02.n):NaNC P f:=by
 intro x
 refine PureC.is (Q8 hm hf (qj rfl) ?_) rfl
 unfold L02.c
 simp[go_sem,L02.r]
theorem Qfc {f fn:FuncId} (hf:Q9 P f (L00.c fn) L00.r L00.n) (hn:NaNC P fn):CmpC P f:=by
 intro x y
 refine PureC.is (Q8 hm hf (qj rfl) ?_) rfl
 unfold L00.c
 simp[go_sem]
 refine Q5 (hn x) ?_
 simp[go_sem]
 refine Q5 (hn y) ?_
 by_cases h1:x<y
 ·simp[go_sem,h1,L00.r,Eu]
 ·by_cases h2:y<x<;>simp[go_sem,h1,h2,L00.r,Eu]
end
end Go.Abs
namespace Go.Abs
open Go.Sort
instance:Inhabited P2:=⟨⟨0,0⟩⟩
def P2.rev (e:P2):P2:=⟨e.y,e.x⟩
def P2.und (e:P2):P2:=⟨min e.x e.y,max e.x e.y⟩
def P2.ints (e:P2):List Int:=[e.x,e.y]
def Z3 (m:Mesh):List (P2 × Int):=if m.check=0 then Yc (Qb m.tris) else []
def Q4j (P:Program) (f:FuncId):Prop:=∀m:Mesh,NewC P f [m.enc] (λr h=>r=.mp 1/\h=[.dead,.mp ((Z3 m).map asV)])
def RevC (P:Program) (f:FuncId):Prop:=∀e:P2,CallIs P f [e.enc] e.rev.enc
def UndC (P:Program) (f:FuncId):Prop:=∀e:P2,CallIs P f [e.enc] e.und.enc
def OrC (P:Program) (f:FuncId):Prop:=∀x y:Int,CallIs P f [.l 1 [[.i .i64 x],[.i .i64 y]]] (.i .i64 (if x≠0 then x else y))
def Qje (a b:P2):Int:=if Eu a.x b.x≠0 then Eu a.x b.x else Eu a.y b.y
def Qf9 (P:Program) (f:FuncId):Prop:=∀a b:P2,CallIs P f [a.enc,b.enc] (.i .i64 (Qje a b))
theorem ltE (a b:P2):ltC Qje a b=decide (P2.lt a b):=by
 unfold ltC Qje Eu P2.lt
 by_cases h1:a.x<b.x
 ·simp[h1]
 ·by_cases h2:b.x<a.x
  ·simp[h1,h2];omega
  ·have h3:a.x=b.x:=by omega
   by_cases h4:a.y<b.y
   ·simp[h3,h4]
   ·by_cases h5:b.y<a.y<;>simp[h3,h4,h5]
theorem swoE:SWO (ltC Qje) where
 irrefl x:=by rw[ltE];simp[P2.lt]
 trans x y z h1 h2:=by
  rw[ltE,decide_eq_true_eq]at *
  exact P2.lt_trans h1 h2
 ntrans x y z h1 h2:=by
  rw[ltE,decide_eq_false_iff_not]at *
  unfold P2.lt at *;omega
section
variable {P:Program} (hm:P.follows .mixedOrders=true)
include hm
theorem Q4u {f:FuncId} (hf:Q9 P f L22.c L22.r L22.n):I1 P f:=Kz hm hf
theorem Q18 {f:FuncId} (hf:Q9 P f L24.c L24.r L24.n):RevC P f:=by
 intro e
 refine PureC.is (Q8 hm hf (qj rfl) ?_) rfl
 unfold L24.c
 simp[go_sem,P2.enc,P2.cs,L24.r,P2.rev]
theorem E4 {f:FuncId} (hf:Q9 P f L25.c L25.r L25.n):UndC P f:=by
 intro e
 refine PureC.is (Q8 hm hf (qj rfl) ?_) rfl
 unfold L25.c
 simp[go_sem,P2.enc,P2.cs,L25.r,P2.und,Q09,Qdv]
theorem Or_ok {f:FuncId} (hf:Q9 P f L01.c L01.r L01.n):OrC P f:=by
 intro x y
 refine PureC.is (Q8 hm hf (qj rfl) ?_) rfl
 unfold L01.c
 simp[go_sem]
 refine Qi (α:=Nat) (λk=>k<=2/\(1<=k->x=0)/\(2<=k->y=0))
  (λk=>⟨[(3,.i .i64 0),(6,.l 1 [[.i .i64 x],[.i .i64 y]]),(7,.i .i64 2),(8,.i .i64 k)],[]⟩)
  (λk=>2-k) 0 ⟨by omega,by omega,by omega⟩ ?_ ?_
 ·simp[go_sem]
 ·rintro k ⟨hk,h1,h2⟩
  have w1:IntKind.i64.wrap 1=1:=rfl
  have w2:IntKind.i64.wrap 2=2:=rfl
  have:k=0∨k=1∨k=2:=by omega
  rcases this with rfl | rfl | rfl
  ·by_cases hx:x=0
   ·simp[go_sem,hx,w1]
    exact⟨1,⟨by omega,λh=>by omega⟩,by omega,rfl⟩
   ·simp[go_sem,hx,L01.r]
  ·have hx:=h1 (by omega)
   by_cases hy:y=0
   ·simp[go_sem,hx,hy,w2]
    exact⟨2,by omega,by omega,rfl⟩
   ·simp[go_sem,hx,hy,L01.r]
  ·have hx:=h1 (by omega)
   have hy:=h2 (by omega)
   simp[go_sem,hx,hy,L01.r]
theorem Q4t {f fc fo:FuncId} (hf:Q9 P f (L23.c fc fo) L23.r L23.n) (hc:CmpC P fc) (ho:OrC P fo):Qf9 P f:=by
 intro a b
 refine PureC.is (Q8 hm hf (qj rfl) ?_) rfl
 unfold L23.c
 simp[go_sem,P2.enc,P2.cs]
 refine Qn (hc a.x b.x) ?_
 simp[go_sem]
 refine Qn (hc a.y b.y) ?_
 simp[go_sem]
 refine Qn (ho _ _) ?_
 simp[go_sem,L23.r,Qje]
theorem Q19 {f fc fe:FuncId} (hf:Q9 P f (L21.c fc fe) L21.r L21.n) (hc:Js P fc) (he:I1 P fe):Q4j P f:=by
 intro m
 refine Qlx hm hf (qj rfl) ?_
 unfold L21.c
 simp[go_sem,Mesh.enc,Mesh.cs]
 refine Q5 (hc m) ?_
 by_cases hz:m.check=0
 case neg =>
  have hT:Z3 m=[]:=by simp[Z3,hz]
  simp[go_sem,hz,L21.r,hT]
 have hl:=(Mesh.check_zero.1 hz).2.1
 simp[go_sem,hz,tsV]
 refine Qi (α:=Nat) (λk=>k<=m.tris.length)
  (λk=>⟨[(3,.mp 1),(14,tsV m.tris),(15,.i .i64 m.tris.length),(16,.i .i64 k)],[.dead,.mp ((Yc (Qb (m.tris.take k))).map asV)]⟩)
  (λk=>m.tris.length-k) 0 (by omega) ?_ ?_
 ·simp[go_sem,tsV,Qb,Yc]
 ·intro k hk
  by_cases hkl:k=m.tris.length
  ·subst hkl
   rw[qk]
   have hT:Z3 m=Yc (Qb m.tris):=by simp[Z3,hz]
   simp[go_sem,tsV,L21.r,hT]
   exact Xc _ 2
  ·have hlt:k<m.tris.length:=by omega
   have hp:m.tris[k]?=some m.tris[k]:=qb hlt
   generalize m.tris[k]=t at hp
   obtain⟨_,hp'⟩:=qa.1 hp
   simp[go_sem,tsV,hlt,hp',tcs]
   refine Q5 (he t) ?_
   have hlen:(Q7 t).length<=3:=Xb t 3
   have hE:=Q14 m.tris k
   generalize hA:Qb (m.tris.take k)=A0
   simp[go_sem,psV]
   refine Qi (α:=Nat) (λj=>j<=(Q7 t).length)
    (λj=>⟨[(3,.mp 1),(14,tsV m.tris),(15,.i .i64 m.tris.length),(16,.i .i64 k),(21,psV (Q7 t)),(22,.i .i64 (Q7 t).length),(23,.i .i64 j)],[.dead,.mp ((Yc (A0++(Q7 t).take j)).map asV)]⟩)
    (λj=>(Q7 t).length-j) 0 (by omega) ?_ ?_
   ·simp[go_sem,tsV,psV]
    exact Xc _ 2
   ·intro j hj
    by_cases hjl:j=(Q7 t).length
    ·subst hjl
     simp (disch:=omega) [go_sem,tsV,psV,Q3]
     exact⟨k+1,by omega,by omega,by omega,by rw[Yu hp,hA],Xc _ 2⟩
    ·have hjlt:j<(Q7 t).length:=by omega
     have hq:(Q7 t)[j]?=some (Q7 t)[j]:=qb hjlt
     have htk:(Q7 t).take (j+1)=(Q7 t).take j++[(Q7 t)[j]]:=by rw[List.take_add_one,hq];rfl
     generalize (Q7 t)[j]=e at hq htk
     obtain⟨_,hq'⟩:=qa.1 hq
     have hS1:A0++(Q7 t).take (j+1)=(A0++(Q7 t).take j)++[e]:=by rw[htk,<- j4]
     generalize hS:A0++(Q7 t).take j=S at hS1
     have hT1:=Ki S e
     rw[<- hS1]at hT1
     generalize hL:Yc S=L at hT1
     have h1:=J9 e L
     unfold Qcc at hT1
     cases hfn:fnd e L with
     | some p =>
       obtain⟨i,n⟩:=p
       rw[hfn]at h1 hT1
       simp only[Option.map_some]at h1
       simp only at hT1
       have hn:n=S.count e:=by
        have:=Bi S e
        rw[hL,val,hfn]at this
        exact this
       have hcl:S.count e<=S.length:=List.count_le_length
       have hSl:S.length<=3*4096:=by
        rw[<- hS,<- hA,j5,qx];omega
       have h3:fnd e (L.set i (e,n+1))=some (i,n+1):=(Kq (n':=n+1) hfn).2
       have hil:i<L.length:=(qa.1 (Kq (n':=n+1) hfn).1).1
       have hil':i<(List.map asV L).length:=by simpa using hil
       have wn:IntKind.i64.wrap (n+1)=n+1:=Q3 (by omega) (by omega)
       simp[go_sem,psV,hjlt,hq',pcs,h1,wn,qo hil',List.set_set]
       refine⟨j+1,by omega,by omega,⟨.inr rfl,Q3 (by omega) (by omega)⟩,?_,Xc _ 2⟩
       rw[hT1,List.map_set];rfl
     | none =>
       rw[hfn]at h1 hT1
       simp only[Option.map_none]at h1
       have w1:IntKind.i64.wrap 1=1:=rfl
       simp only at hT1
       simp[go_sem,psV,hjlt,hq',pcs,h1,w1]
       refine⟨j+1,by omega,by omega,⟨.inr rfl,Q3 (by omega) (by omega)⟩,?_,Xc _ 2⟩
       rw[hT1,qy];rfl
end
end Go.Abs
namespace Go.Abs
open Go.Sort
def bordE (E:List P2) (e:P2):Bool:=decide (E.count e.rev<E.count e)
def border (E:List P2):List P2:=Ws (E.filter (bordE E))
def Mesh.border (m:Mesh):List P2:=if m.check=0 then Go.Abs.border (Qb m.tris) else []
def Mesh.closed (m:Mesh):Bool:=decide (m.check=0) && decide (m.border=[])
def Q0w (P:Program) (f:FuncId):Prop:=∀m:Mesh,CallIs P f [m.enc] (psV m.border)
def Q9p (P:Program) (f:FuncId):Prop:=∀m:Mesh,CallIs P f [m.enc] (.b m.closed)
def Mesh.use (m:Mesh) (e:P2):Int:=if m.check=0 then (Qb m.tris).count e else 0
theorem sh_asV (L:List (P2 × Int)) (n:Nat):(O.mp (L.map asV)).sh n=.mp (L.map asV):=by
 simp[O.sh,asV,V.sh2,V.sh1,V.sh0]
theorem Qcs (m:Mesh) (e:P2):val e (Z3 m)=m.use e:=by
 unfold Z3 Mesh.use
 split
 ·exact Bi _ _
 ·rfl
theorem Q2s {m:Mesh} {i:Nat} {e:P2} {n:Int} (h:(Z3 m)[i]?=some (e,n)):m.check=0/\e∈Qb m.tris/\n=m.use e:=by
 unfold Z3 at h
 split at h
 ·rename_i hz
  have:=Q60 h
  exact⟨hz,this.1,by simp[Mesh.use,hz,this.2]⟩
 ·simp at h
theorem Qgw {m:Mesh} {e:P2} (hz:m.check=0) (h:e∈Qb m.tris):∃i:Nat,(Z3 m)[i]?=some (e,m.use e):=by
 unfold Z3 Mesh.use
 rw[if_pos hz,if_pos hz]
 exact Qkq h
theorem Q7a (m:Mesh):((Z3 m).map Prod.fst).Nodup:=by
 unfold Z3
 split
 ·exact(Kj _).1
 ·simp
theorem Qcw (m:Mesh):(Z3 m).length<=12288:=by
 unfold Z3
 split
 ·rename_i hz
  have h1:=(Kj (Qb m.tris)).2
  have h3:=Q14 m.tris m.tris.length
  rw[qk]at h3
  have h4:=(Mesh.check_zero.1 hz).2.1
  have h5:∀E:List P2,(Yc E).length<=E.length:=by
   refine Q29 (by simp[Yc]) λE x ih=>?_
   rw[Ki]
   unfold Qcc
   split<;>simp<;>omega
  have:=h5 (Qb m.tris)
  omega
 ·simp
theorem mem_border {m:Mesh} {e:P2}:e∈m.border↔m.check=0/\e∈Qb m.tris/\m.use e.rev<m.use e:=by
 unfold Mesh.border Mesh.use
 by_cases hz:m.check=0
 ·simp only[if_pos hz]
  unfold Go.Abs.border bordE
  rw[U0,qw]
  simp[hz]
 ·simp[hz]
theorem Qev (m:Mesh):asc m.border:=by
 unfold Mesh.border
 split
 ·exact Ud _
 ·simp[asc]
theorem Qi7 {L:List (P2 × Int)} (h:(L.map Prod.fst).Nodup) {i j:Nat} {e:P2} {n n':Int} (hi:L[i]?=some (e,n)) (hj:L[j]?=some (e,n')):i=j:=by
 have h1:=Kr h hi
 have h2:=Kr h hj
 rw[h1]at h2
 simp at h2;exact h2.1
def BInv (m:Mesh) (p:List Nat × List P2):Prop:=p.2.Nodup/\p.2.length<=p.1.length/\p.1.length<=(Z3 m).length-left (Z3 m).length p.1/\(∀i∈p.1,i<(Z3 m).length)/\∀x,x∈p.2↔∃i∈p.1,∃n,(Z3 m)[i]?=some (x,n)/\m.use x.rev<m.use x
section
variable {P:Program} (hm:P.follows .mixedOrders=true)
include hm
theorem Bl {f fc fr fs fo:FuncId} (hf:Q9 P f (L1y.c fc fr fs fo) L1y.r L1y.n) (hc:Q4j P fc) (hr:RevC P fr) (hs:Wt P fs 2) (ho:Qf9 P fo) (hcal:Qq P fo=true):Q0w P f:=by
 intro m
 refine PureC.is (Q8 hm hf (qj rfl) ?_) rfl
 unfold L1y.c
 have hLl:=Qcw m
 simp[go_sem,Mesh.enc,Mesh.cs]
 refine Q76 (hc m) rfl ?_
 simp only[List.map_cons,List.map_nil,sh_asV]
 simp[go_sem]
 refine Z0 [.t 4 2] (α:=List Nat × List P2) (BInv m)
  (λp=>⟨[(3,.mp 2),(4,.own 4 (p.2.length+1) 0 p.2.length),(10,.p 3 1 0 0)],[.dead,.dead,.mp ((Z3 m).map asV),.it (some 2) (Z3 m).length p.1,.arr (p.2.length+1) 2 (p.2.map P2.cs)]⟩)
  (λp=>left (Z3 m).length p.1) ([],[]) ⟨by simp,by simp,by simp[left],by simp,by simp⟩ ?_ ?_
 ·simp[go_sem]
  exact Xc _ 5
 ·rintro⟨seen,out⟩ ⟨hnd,hol,hsl,hsr,hmem⟩
  simp only at hnd hol hsl hsr hmem
  simp[go_sem,Mnx]
  refine⟨λhall=>?_,?_⟩
  ·obtain⟨ys,hperm,hup,hcall⟩:=hs P2.ints (λ_=>rfl) Qje swoE fo hcal (λa b=>ho a b) out (by omega)
   have hys:ys=m.border:=by
    rw[Qc9 hperm hnd (hup.imp (by intro a b h;rw[ltE]at h;simpa using h))]
    refine Q97 (Ud _) (Qev m) λx=>?_
    rw[U0,hmem,mem_border]
    constructor
    ·rintro⟨i,_,n,h1,h2⟩
     have:=Q2s h1
     exact⟨this.1,this.2.1,h2⟩
    ·rintro⟨h1,h2,h3⟩
     obtain⟨i,hi⟩:=Qgw h1 h2
     exact⟨i,hall i (qa.1 hi).1,_,hi,h3⟩
   refine Qr (hcall _ 4 _ rfl) ?_
   subst hys
   have hl2:m.border.length=out.length:=hperm.length_eq
   have hy2:m.border.map (λx=>x.ints.map (V.i .i64))=m.border.map P2.cs:=rfl
   rw[hy2]
   have ht:List.take out.length (m.border.map P2.cs)=m.border.map P2.cs:=qg (by simp[hl2])
   simp[go_sem,L1y.r,psV,Qls,hl2,ht]
  ·rintro i a b e n hi hab hni
   simp only[asV,Prod.mk.injEq]at hab
   obtain⟨rfl,rfl⟩:=hab
   have hil:i<(Z3 m).length:=(qa.1 hi).1
   have hg:=Q2s hi
   simp[go_sem,hi,asV]
   refine Q5 (hr e) ?_
   have h1:Ql [1,1] (V.a [V.i .i64 e.y,V.i .i64 e.x]) ((Z3 m).map asV)=_:=J9 e.rev (Z3 m)
   have hv:=Qcs m e.rev
   have hleft:=Qg1 hil hni
   have hleft2:left (Z3 m).length seen<=(Z3 m).length:=by
    unfold left
    have:=ja (λi=>!seen.contains i) (List.range (Z3 m).length)
    simpa using this
   have hinv:∀out':List P2,(out'.Nodup/\out'.length<=seen.length+1/\∀x,x∈out'↔x∈out∨(x=e/\m.use e.rev<m.use e)) ->
     BInv m (seen++[i],out'):=by
    rintro out' ⟨q1,q2,q3⟩
    refine⟨q1,by simpa using q2,by simp only[j5,List.length_cons,List.length_nil];omega,λj hj=>?_,λx=>?_⟩
    ·rcases qi.1 hj with h | h
     ·exact hsr j h
     ·simp at h;omega
    ·rw[q3,hmem]
     constructor
     ·rintro (⟨j,h1,n',h2,h3⟩ | ⟨rfl,h3⟩)
      ·exact⟨j,by simp[h1],n',h2,h3⟩
      ·exact⟨i,by simp,n,hi,h3⟩
     ·rintro⟨j,h1,n',h2,h3⟩
      rcases qi.1 h1 with h | h
      ·exact .inl ⟨j,h,n',h2,h3⟩
      ·simp at h
       subst h
       rw[hi]at h2
       simp at h2
       obtain⟨rfl,rfl⟩:=h2
       exact .inr ⟨rfl,h3⟩
   have hein:e∉out:=by
    rw[hmem]
    rintro⟨j,h1,n',h2,_⟩
    have:=Qi7 (Q7a m) hi h2
    subst this
    exact hni h1
   have hn:=hg.2.2
   have hi1:=hinv (out++[e])
   have hi2:=hinv out
   cases hfn:fnd e.rev (Z3 m) with
   | none =>
     rw[hfn]at h1
     rw[val,hfn]at hv
     simp only at hv
     simp only[Option.map_none]at h1
     by_cases hlt:0<n
     ·simp (disch:=omega) [go_sem,h1,P2.rev,P2.enc,P2.cs,hlt]
      refine⟨by omega,seen++[i],out++[e],hi1 ⟨?_,by simp;omega,λx=>?_⟩,hleft,?_⟩
      ·rw[List.nodup_append]
       exact⟨hnd,by simp,λa ha b hb=>by simp at hb;subst hb;rintro rfl;exact hein ha⟩
      ·rw[qi,qp]
       have:m.use e.rev<m.use e:=by omega
       simp[this]
      ·simp[pcs]
       exact Xc _ 5
     ·simp (disch:=omega) [go_sem,h1,P2.rev,P2.enc,P2.cs,hlt]
      refine⟨seen++[i],out,hi2 ⟨hnd,by omega,λx=>?_⟩,hleft,?_⟩
      ·have:¬ m.use e.rev<m.use e:=by omega
       simp[this]
      ·exact⟨rfl,Xc _ 5,rfl,rfl,rfl⟩
   | some p =>
     obtain⟨j,n'⟩:=p
     rw[hfn]at h1
     rw[val,hfn]at hv
     simp only at hv
     simp only[Option.map_some]at h1
     by_cases hlt:n'<n
     ·simp (disch:=omega) [go_sem,h1,P2.rev,P2.enc,P2.cs,hlt]
      refine⟨by omega,seen++[i],out++[e],hi1 ⟨?_,by simp;omega,λx=>?_⟩,hleft,?_⟩
      ·rw[List.nodup_append]
       exact⟨hnd,by simp,λa ha b hb=>by simp at hb;subst hb;rintro rfl;exact hein ha⟩
      ·rw[qi,qp]
       have:m.use e.rev<m.use e:=by omega
       simp[this]
      ·simp[pcs]
       exact Xc _ 5
     ·simp (disch:=omega) [go_sem,h1,P2.rev,P2.enc,P2.cs,hlt]
      refine⟨seen++[i],out,hi2 ⟨hnd,by omega,λx=>?_⟩,hleft,?_⟩
      ·have:¬ m.use e.rev<m.use e:=by omega
       simp[this]
      ·exact⟨rfl,Xc _ 5,rfl,rfl,rfl⟩
theorem Q2r {f fc fb:FuncId} (hf:Q9 P f (L1z.c fc fb) L1z.r L1z.n) (hc:Js P fc) (hb:Q0w P fb):Q9p P f:=by
 intro m
 refine PureC.is (Q8 hm hf (qj rfl) ?_) rfl
 unfold L1z.c
 simp[go_sem,Mesh.enc,Mesh.cs]
 refine Q5 (hc m) ?_
 by_cases h:m.check=0
 ·simp[go_sem,h]
  refine Q5 (hb m) ?_
  simp[go_sem,psV,L1z.r,Mesh.closed,h]
  rw[Bool.eq_iff_iff];simp
 ·have h':(m.check == 0)=false:=by simpa using h
  simp[go_sem,h,h',L1z.r,Mesh.closed]
end
theorem Qex {n:Nat} {h l:List O} (hc:∀o∈h,o.cl n):WeakH n (h++l) h:=by
 have:=Qy (n:=n) (a:=l) (b:=[]) hc (by cases l<;>trivial)
 rwa [List.append_nil]at this
theorem Xd {h l:List O} {id:Nat} {o:O} (ho:h[id]?=some o):(h++l)[id]?=some o:=by
 rw[qf (qa.1 ho).1,ho]
theorem Q0n {h:List O} (l:List O) {id:Nat} (hid:id<h.length) (o:O):(h++l).set id o=h.set id o++l:=List.set_append_left _ _ hid
def Mesh.edgesL (m:Mesh):List P2:=if m.check=0 then Ws ((Qb m.tris).map P2.und) else []
theorem Qc {α:Type} {l:List α} {k:Nat} {x:α} (h:l[k]?=some x):l.take (k+1)=l.take k++[x]:=by rw[List.take_add_one,h];rfl
end Go.Abs
