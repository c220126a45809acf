/- Part of the library on which the proof stands: an abstract machine, its values and its soundness against the model; or what functions of the program do to such values. -/
import Derived.Test.YtcdjgldeiaiaoaaGreatGoTo
import Derived.Test.YtcdjgldeiaiaoaaGreatAbsSS
set_option linter.unusedVariables false
set_option linter.unusedSimpArgs false
set_option maxHeartbeats 4000000
namespace Go.Abs
theorem Ui {α:Type} {p:List α->Prop} (h0:p []) (h1:∀E x,p E->p (E++[x])) (E:List α):p E:=by
 rw[<- E.reverse_reverse]
 induction E.reverse with
 | nil=>exact h0
 | cons x l ih=>rw[List.reverse_cons];exact h1 _ _ ih
def Qbk (L:List (P2 × Int)) (e:P2):List (P2 × Int) :=
 match fnd e L with
 | some (i,n)=>L.set i (e,n+1)
 | none=>L++[(e,1)]
def Yn (E:List P2):List (P2 × Int):=E.foldl Qbk []
theorem Ks (E:List P2) (e:P2):Yn (E++[e])=Qbk (Yn E) e:=by simp[Yn]
def val (e:P2) (L:List (P2 × Int)):Int:=match fnd e L with | some (_,n)=>n | none=>0
theorem Q4l {e e':P2} (hne:e'≠e) {n':Int}:∀{L:List (P2 × Int)} {i:Nat} {n:Int},fnd e L=some (i,n)->fnd e' (L.set i (e,n'))=fnd e' L
 | [],i,n,h=>by simp[fnd]at h
 | (k,m)::r,i,n,h=>by
   simp only[fnd]at h
   by_cases hk:e=k
   ·simp[hk]at h
    obtain⟨rfl,rfl⟩:=h
    subst hk
    simp[fnd,hne]
   ·simp only[hk,if_false,qa,Prod.mk.injEq]at h
    obtain⟨⟨j,n1⟩,hj,rfl,rfl⟩:=h
    have:=Q4l (n':=n') hne hj
    simp only[List.set_cons_succ,fnd,this]
theorem Q4n {e e':P2} (hne:e'≠e) {n:Int}:∀{L:List (P2 × Int)},fnd e' (L++[(e,n)])=fnd e' L
 | []=>by simp[fnd,hne]
 | (k,m)::r=>by
   simp only[List.cons_append,fnd,Q4n hne]
theorem Qiz (L:List (P2 × Int)) (e e':P2):val e' (Qbk L e)=val e' L+if e'=e then 1 else 0:=by
 unfold Qbk
 cases h:fnd e L with
 | none =>
   simp only
   by_cases he:e'=e
   ·subst he
    simp only[val,Q8e h,h,if_true];omega
   ·simp only[val,Q4n he,he,if_false];omega
 | some p =>
   obtain⟨i,n⟩:=p
   simp only
   by_cases he:e'=e
   ·subst he
    simp only[val,(W2 (n':=n+1) h).2,h,if_true]
   ·simp only[val,Q4l he h,he,if_false];omega
theorem Q08 (E:List P2) (e:P2):val e (Yn E)=E.count e:=by
 refine Ui (p:=λE=>val e (Yn E)=E.count e) ?_ ?_ E
 ·rfl
 ·intro E x ih
  rw[Ks,Qiz,ih,List.count_append,List.count_singleton]
  by_cases h:e=x
  ·subst h;simp
  ·have:¬ x=e:=λhh=>h hh.symm
   simp[h,this]
theorem Qko {L:List (P2 × Int)} {i:Nat} {e:P2} {n n':Int} (h:L[i]?=some (e,n)):(L.set i (e,n')).map Prod.fst=L.map Prod.fst:=by
 rw[List.map_set]
 apply qy
 intro j
 by_cases hj:i=j
 ·subst hj
  have:=(q8.1 h).1
  rw[qn (by simpa using this)]
  simp[h]
 ·rw[qu hj]
theorem Qh9 (L:List (P2 × Int)) (e:P2):(Qbk L e).map Prod.fst=if (fnd e L).isSome then L.map Prod.fst else L.map Prod.fst++[e]:=by
 unfold Qbk
 cases h:fnd e L with
 | none=>simp
 | some p =>
   obtain⟨i,n⟩:=p
   simp only[Option.isSome_some,if_true]
   exact Qko (W2 (n':=n) h).1
theorem fnd_keys {e:P2} {L:List (P2 × Int)}:fnd e L=none↔e∉L.map Prod.fst:=by
 rw[Q4m]
 constructor
 ·rintro h hm
  obtain⟨p,hp,rfl⟩:=qp.1 hm
  exact h p hp rfl
 ·rintro h p hp rfl
  exact h (List.mem_map_of_mem hp)
theorem Kt (E:List P2):((Yn E).map Prod.fst).Nodup/\∀e,e∈(Yn E).map Prod.fst↔e∈E:=by
 refine Ui (p:=λE=>((Yn E).map Prod.fst).Nodup/\∀e,e∈(Yn E).map Prod.fst↔e∈E) ?_ ?_ E
 ·simp[Yn]
 ·intro E x ih
  rw[Ks,Qh9]
  cases h:fnd x (Yn E) with
  | none =>
    have h':=fnd_keys.1 h
    simp only[Option.isSome_none,Bool.false_eq_true,if_false]
    refine⟨?_,λe=>?_⟩
    ·rw[List.nodup_append]
     exact⟨ih.1,by simp,λa ha b hb=>by simp at hb;subst hb;rintro rfl;exact h' ha⟩
    ·rw[qg,ih.2,qg]
  | some p =>
    have h':x∈(Yn E).map Prod.fst:=j7 λhh=>by rw[fnd_keys.2 hh]at h;simp at h
    simp only[Option.isSome_some,if_true]
    refine⟨ih.1,λe=>?_⟩
    rw[ih.2,qg]
    constructor
    ·exact .inl
    ·rintro (h2 | h2)
     ·exact h2
     ·simp at h2;subst h2;exact(ih.2 e).1 h'
theorem Jw:∀{L:List (P2 × Int)} {i:Nat} {e:P2} {n:Int},(L.map Prod.fst).Nodup->L[i]?=some (e,n)->fnd e L=some (i,n)
 | [],i,e,n,_,h=>by simp at h
 | (k,m)::r,0,e,n,_,h=>by simp at h;obtain⟨rfl,rfl⟩:=h;simp[fnd]
 | (k,m)::r,i+1,e,n,hn,h=>by
   simp only[List.map_cons,List.nodup_cons]at hn
   simp only[List.getElem?_cons_succ]at h
   have hk:¬ e=k:=by
    rintro rfl
    exact hn.1 (qp.2 ⟨(e,n),qb h,rfl⟩)
   simp[fnd,hk,Jw hn.2 h]
theorem Q69 {E:List P2} {i:Nat} {e:P2} {n:Int} (h:(Yn E)[i]?=some (e,n)):e∈E/\n=E.count e:=by
 have hk:=Kt E
 refine⟨(hk.2 e).1 (qp.2 ⟨(e,n),qb h,rfl⟩),?_⟩
 have:=Q08 E e
 rw[val,Jw hk.1 h]at this
 exact this
theorem Qj3 {E:List P2} {e:P2} (h:e∈E):∃i:Nat,(Yn E)[i]?=some (e,(E.count e:Int)):=by
 obtain⟨p,hp,rfl⟩:=qp.1 (((Kt E).2 e).2 h)
 obtain⟨i,hi⟩:=qr hp
 refine⟨i,?_⟩
 rw[hi]
 have:=(Q69 (e:=p.1) (n:=p.2) hi).2
 rw[<- this]
def left (n:Nat) (seen:List Nat):Nat:=((List.range n).filter λi=>!seen.contains i).length
theorem left_lt {n i:Nat} {seen:List Nat} (hi:i<n) (hs:i∉seen):left n (seen++[i])<left n seen:=by
 have h:(List.range n).filter (λj=>!(seen++[i]).contains j)=((List.range n).filter λj=>!seen.contains j).filter (λj=>!(j == i)):=by
  rw[List.filter_filter]
  congr 1
  funext j
  by_cases h1:j∈seen<;>by_cases h2:j=i<;>simp[h1,h2]
 unfold left
 rw[h,List.length_filter_lt_length_iff_exists]
 exact⟨i,by simp[hi,hs],by simp⟩
def P2.lt (a b:P2):Prop:=a.x<b.x∨(a.x=b.x/\a.y<b.y)
instance (a b:P2):Decidable (P2.lt a b):=by unfold P2.lt;infer_instance
theorem P2.lt_irrefl (a:P2):¬ P2.lt a a:=by unfold P2.lt;omega
theorem P2.lt_trans {a b c:P2} (h1:P2.lt a b) (h2:P2.lt b c):P2.lt a c:=by unfold P2.lt at *;omega
theorem P2.lt_total {a b:P2} (h:¬ P2.lt a b) (h':¬ P2.lt b a):a=b:=by
 unfold P2.lt at *
 have h1:a.x=b.x:=by omega
 have h2:a.y=b.y:=by omega
 cases a;cases b;simp_all
theorem P2.lt_asymm {a b:P2} (h1:P2.lt a b):¬ P2.lt b a:=by unfold P2.lt at *;omega
def asc (l:List P2):Prop:=l.Pairwise P2.lt
theorem Q2h:∀{l1 l2:List P2},asc l1->asc l2->(∀a,a∈l1↔a∈l2)->l1=l2
 | [],[],_,_,_=>rfl
 | [],y::l2,_,_,h=>by have:=(h y).2 (by simp);simp at this
 | x::l1,[],_,_,h=>by have:=(h x).1 (by simp);simp at this
 | x::l1,y::l2,h1,h2,h=>by
   have p1:=j9.1 h1
   have p2:=j9.1 h2
   have hxy:x=y:=by
    rcases List.mem_cons.1 ((h x).1 (by simp)) with h3 | h3
    ·exact h3
    ·rcases List.mem_cons.1 ((h y).2 (by simp)) with h4 | h4
     ·exact h4.symm
     ·exact absurd (p2.1 x h3) (P2.lt_asymm (p1.1 y h4))
   subst hxy
   rw[Q2h p1.2 p2.2 λa=>?_]
   constructor
   ·intro ha
    rcases List.mem_cons.1 ((h a).1 (by simp[ha])) with h3 | h3
    ·subst h3;exact absurd (p1.1 a ha) (P2.lt_irrefl a)
    ·exact h3
   ·intro ha
    rcases List.mem_cons.1 ((h a).2 (by simp[ha])) with h3 | h3
    ·subst h3;exact absurd (p2.1 a ha) (P2.lt_irrefl a)
    ·exact h3
def Qai (e:P2):List P2->List P2
 | []=>[e]
 | x::l=>if e=x then x::l else if P2.lt e x then e::x::l else x::Qai e l
theorem mem_insP {e a:P2}:∀{l:List P2},a∈Qai e l↔a=e∨a∈l
 | []=>by simp[Qai]
 | x::l=>by
   simp only[Qai]
   split
   ·rename_i h;subst h;simp
   ·split
    ·simp
    ·simp[mem_insP];constructor<;>(rintro (h | h | h)<;>simp[h])
theorem Qah {e:P2}:∀{l:List P2},asc l->asc (Qai e l)
 | [],_=>by simp[Qai,asc]
 | x::l,h=>by
   have hc:=j9.1 h
   simp only[Qai]
   split
   ·exact h
   ·split
    ·rename_i h1 h2
     refine j9.2 ⟨λb hb=>?_,h⟩
     rcases List.mem_cons.1 hb with rfl | hb
     ·exact h2
     ·exact P2.lt_trans h2 (hc.1 b hb)
    ·rename_i h1 h2
     refine j9.2 ⟨λb hb=>?_,Qah hc.2⟩
     rcases mem_insP.1 hb with rfl | hb
     ·exact j7 λh3=>h1 (P2.lt_total h2 h3)
     ·exact hc.1 b hb
def Q53 (l:List P2):List P2:=l.foldr Qai []
theorem Q16 (l:List P2):asc (Q53 l):=by
 induction l with
 | nil=>simp[Q53,asc]
 | cons x l ih=>exact Qah ih
theorem Q0t {l:List P2} {a:P2}:a∈Q53 l↔a∈l:=by
 induction l with
 | nil=>simp[Q53]
 | cons x l ih=>simp only[Q53,List.foldr_cons,mem_insP,List.mem_cons];rw[<- ih];rfl
theorem Qbi {ys xs:List P2} (hp:ys.Perm xs) (hn:xs.Nodup) (hs:ys.Pairwise λa b=>¬ P2.lt b a):ys=Q53 xs:=by
 refine Q2h ?_ (Q16 xs) λa=>by rw[hp.mem_iff,Q0t]
 have hn':ys.Nodup:=hp.symm.nodup hn
 exact(List.Pairwise.and hs hn').imp λh=>j7 λh3=>h.2 (P2.lt_total h3 h.1)
def L00.c (L02:FuncId):C :=(.seq (.reg [Ac 4 0]) (.seq (.reg [Am 7 0,Au 8 (.call L02 [.t 7]),Am 5 8]) (.seq (.reg [Am 9 1,Au 10 (.call L02 [.t 9]),Am 6 10]) (.seq (.seq (.reg [Am 11 5]) (.ite (.t 11) (.seq (.seq (.reg [Am 12 6]) (.ite (.t 12) (.seq (.reg [Ac 4 0]) .ret) .skip)) (.seq (.reg [Ac 4 (-1)]) .ret)) .skip)) (.seq (.seq (.reg [Am 13 6]) (.ite (.t 13) (.seq (.reg [Ac 4 1]) .ret) .skip)) (.seq (.seq (.reg [Am 14 0,Am 15 1,Aj .lss 16 14 15]) (.ite (.t 16) (.seq (.reg [Ac 4 (-1)]) .ret) .skip)) (.seq (.seq (.reg [Am 17 0,Am 18 1,Aj .gtr 19 17 18]) (.ite (.t 19) (.seq (.reg [Ac 4 1]) .ret)
 .skip)) (.seq (.reg [Ac 4 0]) .ret))))))))
def L00.r:List Rr:=[.tmp 4]
abbrev L00.n:Nat:=20
def L02.c:C :=(.seq (.reg [Ab 2 false]) (.seq (.reg [Am 3 0,Am 4 0,Aj .neq 5 3 4,Am 2 5]) .ret))
def L02.r:List Rr:=[.tmp 2]
abbrev L02.n:Nat:=6
def L01.c:C :=(.seq (.reg [Ac 2 0]) (.seq (.reg [Ac 3 0]) (.seq (.seq (.reg [Am 6 0,An 7 0 6,Ac 8 0]) (.blk 0 (.loop (.seq (.reg [Aj .lss 9 8 7]) (.seq (.ite (.t 9) .skip (.exit 0)) (.seq (.blk 1 (.seq (.reg [Ai 10 1 6 8,Al 11 10,Am 5 11]) (.seq (.reg [Am 12 5,Am 13 3,Aj .neq 14 12 13]) (.ite (.t 14) (.seq (.reg [Am 15 5,Am 2 15]) .ret) .skip)))) (.reg [Ad 16 8 1,Am 8 16]))))))) (.seq (.reg [Am 17 3,Am 2 17]) .ret))))
def L01.r:List Rr:=[.tmp 2]
abbrev L01.n:Nat:=18
def Qdp (x y:Int):Int:=if x<y then -1 else if y<x then 1 else 0
def CmpC (P:Program) (f:FuncId):Prop:=∀x y:Int,CallIs P f [.i .i64 x,.i .i64 y] (.i .i64 (Qdp x y))
def NaNC (P:Program) (f:FuncId):Prop:=∀x:Int,CallIs P f [.i .i64 x] (.b false)
section
variable {P:Program} (hm:P.follows .mixedOrders=true)
include hm
theorem Ql0 {f:FuncId} (hf:Qc P f L02.c L02.r L02.n):NaNC P f:=by
 intro x
 refine PureC.is (Q9 hm hf (qh rfl) ?_) rfl
 unfold L02.c
 simp[go_sem,L02.r]
theorem Qed {f fn:FuncId} (hf:Qc P f (L00.c fn) L00.r L00.n) (hn:NaNC P fn):CmpC P f:=by
 intro x y
 refine PureC.is (Q9 hm hf (qh rfl) ?_) rfl
 unfold L00.c
 simp[go_sem]
 refine Q6 (hn x) ?_
 simp[go_sem]
 refine Q6 (hn y) ?_
 by_cases h1:x<y
 ·simp[go_sem,h1,L00.r,Qdp]
 ·by_cases h2:y<x<;>simp[go_sem,h1,h2,L00.r,Qdp]
end
theorem Qa (h l:List O) (k:Nat):(h++l)[h.length+k]?=l[k]?:=by
 rw[qf (by omega)];congr 1;omega
theorem Qd (h l:List O):(h++l)[h.length]?=l[0]?:=Qa h l 0
theorem Qq (h l:List O) (k:Nat) (o:O):(h++l).set (h.length+k) o=h++l.set k o:=by
 rw[ji _ _ (by omega)];congr 2;omega
theorem Qn (h l:List O) (o:O):(h++l).set h.length o=h++l.set 0 o:=Qq h l 0 o
theorem Z0 {n:Nat} {a b:List O}:∀{h:List O},(∀o∈h,o.cl n)->WeakH n a b->WeakH n (h++a) (h++b)
 | [],_,hw=>hw
 | o::h,hc,hw=>⟨.inr ⟨rfl,hc o (by simp)⟩,Z0 (λo' ho=>hc o' (by simp[ho])) hw⟩
theorem Qmm {js:List Nat} {lg:List (List Nat × List Nat)} {T:List Nat} (h:∀e∈lg,e.2=[]):chk js lg (T,[])=true:=by
 simp only[chk,qj]
 intro j _
 split
 ·rename_i g hg
  have:=h g (qb hg)
  simp[Q0p,this,Dis]
 ·rfl
section
variable {P:Program} {h:List O} {n0:Nat} {js:List Nat} {lg:List (List Nat × List Nat)} {al:List Nat} {K:List Nat × List Nat->V->List O->Prop}
theorem Qec {f:FuncId} {vs:List V} {r:V} {T:List Nat} (hT:∀id∈T,id<n0/\id<h.length) (hp:∀h2:List O,(∀id∈T,h2[id]?=h[id]?)->ACall P f vs h2 (λr' h'=>r'=r/\h'=h2)) (hc:chk js lg (T,[])=true)
  (hk:K (T,[]) r h):Ka P n0 js lg al f vs h K :=
 ⟨T,[],r,h,hc,⟨Nat.le_refl _,λid hid=>⟨(hT id hid).2,.inl (hT id hid).1⟩,by simp,λ_ _ _=>rfl,λh2 _ ha=>⟨r,[],
  (hp h2 ha).mono λr' h' hh=>by rw[Jk,List.append_nil];exact hh,.inl ⟨rfl,rfl,rfl⟩⟩⟩,hk⟩
end
section
variable {J:Nat->Prop} {m:List Ent} {w:World}
theorem Q2e {id:Nat} {e:Ent} (h:m[id]?=some e):id<m.length:=(q8.1 h).1
theorem Qna {x:V} {c:Value} (h:RL J m w x c):x.cl0 m.length=true:=by
 cases x<;>simp only[V.cl0]<;>simp only[RL]at h
 case own id g off len=>obtain⟨_,e,he,_⟩:=h;simpa using Q2e he
 case p id g el j=>obtain⟨_,e,he,_⟩:=h;simpa using Q2e he
 case mp id=>obtain⟨_,e,he,_⟩:=h;simpa using Q2e he
theorem Qnc {x:V} {c:Value} (h:RC J m w x c):x.cl1 m.length=true:=by
 cases x
 case f fn caps =>
  obtain⟨cs,_,hp⟩:=h
  simp only[V.cl1,qj]
  intro x hx
  obtain⟨i,hi⟩:=qr hx
  have hlt:=(q8.1 hi).1
  have hl:=hp.1
  exact Qna (hp.2 i x cs.toList[i] hi (q9 (by omega)))
 case a cs=>exact(show RL J m w (.a cs) c from h).elim
 case t vs=>exact(show RL J m w (.t vs) c from h).elim
 all_goals
  simp only[RC]at h
  simp only[V.cl1]
  exact Qna h
theorem RC_cl {x:V} {c:Value} (h:RC J m w x c):x.cl m.length=true:=by
 cases x
 case a cs=>exact(show RL J m w (.a cs) c from h).elim
 case t vs=>exact(show RL J m w (.t vs) c from h).elim
 all_goals
  simp only[V.cl]
  exact Qnc h
theorem Qfk {x:V} {c:Value} (h:RA J m w x c):x.cl m.length=true:=by
 cases x
 case a cs =>
  obtain⟨arr,_,hp⟩:=h
  simp only[V.cl,qj]
  intro x hx
  obtain⟨i,hi⟩:=qr hx
  have hlt:=(q8.1 hi).1
  have hl:=hp.1
  exact Qnc (hp.2 i x arr.toList[i] hi (q9 (by omega)))
 case t vs=>exact(show RC J m w (.t vs) c from h).elim
 case any=>rfl
 all_goals
  simp only[RA]at h
  exact RC_cl h
theorem Qim {h:List O} (hr:RS J h m w):∀o∈h,o.cl h.length:=by
 intro o ho
 obtain⟨id,hid⟩:=qr ho
 have hlt:=(q8.1 hid).1
 have hl:=hr.len
 have hO:=hr.obj id m[id] o (q9 (by omega)) hid
 rw[<- hl]
 cases o with
 | dead=>trivial
 | arr g sz els =>
   obtain⟨_,_,_,hb⟩:=hO
   intro el hel x hx
   obtain⟨i,hi⟩:=qr hel
   obtain⟨j,hj⟩:=qr hx
   split at hb
   ·obtain⟨rfl,_⟩:=hb;simp at hi
   ·obtain⟨_,_,c,ty,fz,_,_,_,hc⟩:=hb
    obtain⟨cv,_,hcv⟩:=hc i el j x hi hj
    exact RC_cl hcv
 | mp es =>
   obtain⟨_,B,_,ms,_,_,hc⟩:=hO
   intro e he
   obtain⟨i,hi⟩:=qr he
   obtain⟨en,_,_,h1,h2⟩:=hc i e.1 e.2 hi
   exact⟨Qfk h1,Qfk h2⟩
 | md es =>
   obtain⟨_,B,_,ms,c,_,_,hc⟩:=hO
   intro e he
   obtain⟨i,hi⟩:=qr he
   obtain⟨en,_,h1,h2⟩:=hc i e.1 e.2 hi
   exact⟨Qfk h1,Qfk h2⟩
 | it mid since seen =>
   obtain⟨_,_,_,B,_,mb,_,hm⟩:=hO
   intro i hi
   subst hi
   obtain⟨e',he',_⟩:=hm
   exact Q2e he'
end
theorem Qbc {x:V} {n k:Nat} (hnk:n<=k) (h:x.cl0 n=true):x.cl0 k=true:=by
 cases x<;>simp only[V.cl0,decide_eq_true_eq]at h ⊢<;>omega
theorem Qbb {x:V} {n k:Nat} (hnk:n<=k) (h:x.cl1 n=true):x.cl1 k=true:=by
 cases x
 case f fn caps=>simp only[V.cl1,qj]at h ⊢;exact λy hy=>Qbc hnk (h y hy)
 all_goals
  simp only[V.cl1]at h ⊢
  exact Qbc hnk h
theorem Bv {x:V} {n k:Nat} (hnk:n<=k) (h:x.cl n=true):x.cl k=true:=by
 cases x
 case a cs=>simp only[V.cl,qj]at h ⊢;exact λy hy=>Qbb hnk (h y hy)
 case t=>simp[V.cl]at h
 all_goals
  simp only[V.cl]at h ⊢
  exact Qbb hnk h
theorem Qnh {o:O} {n k:Nat} (hnk:n<=k) (h:o.cl n):o.cl k:=by
 cases o with
 | dead=>trivial
 | arr g sz els=>exact λel hel x hx=>Bv hnk (h el hel x hx)
 | mp es=>exact λe he=>⟨Bv hnk (h e he).1,Bv hnk (h e he).2⟩
 | md es=>exact λe he=>⟨Bv hnk (h e he).1,Bv hnk (h e he).2⟩
 | it mid since seen=>exact λi hi=>Nat.lt_of_lt_of_le (h i hi) hnk
theorem Ym {P:Program} {f:FuncId} {vs:List V} {h:List O} {R:V->List O->Prop} (hc:(∀n,h.length<=n->∀o∈h,o.cl n)->ACall P f vs h R):ACall P f vs h R:=by
 intro J m w cargs hr hp
 exact hc (λn hn o ho=>Qnh hn (Qim hr o ho)) J m w cargs hr hp
theorem J4 {P:Program} {f:FuncId} {vs:List V} {h h0:List O} {r0:V} {k:V->List O->Prop} (hc:ACall P f vs h (λr h'=>r=r0/\h'=h0)) (hk:k r0 h0):ACall P f vs h k :=
 hc.mono λr h' hh=>by rw[hh.1,hh.2];exact hk
end Go.Abs
namespace Go.Abs
open Go.Sort
instance:Inhabited P2:=⟨⟨0,0⟩⟩
def P2.rev (e:P2):P2:=⟨e.y,e.x⟩
def P2.und (e:P2):P2:=⟨min e.x e.y,max e.x e.y⟩
def P2.ints (e:P2):List Int:=[e.x,e.y]
def Qw (m:Mesh):List (P2 × Int):=if m.check=0 then Yn (Q8 m.tris) else []
def Q02 (P:Program) (f:FuncId):Prop:=∀m:Mesh,NewC P f [m.enc] (λr h=>r=.mp 1/\h=[.dead,.mp ((Qw m).map asV)])
def RevC (P:Program) (f:FuncId):Prop:=∀e:P2,CallIs P f [e.enc] e.rev.enc
def Qii (P:Program) (f:FuncId):Prop:=∀e:P2,CallIs P f [e.enc] e.und.enc
def OrC (P:Program) (f:FuncId):Prop:=∀x y:Int,CallIs P f [.l 1 [[.i .i64 x],[.i .i64 y]]] (.i .i64 (if x≠0 then x else y))
def Qhw (a b:P2):Int:=if Qdp a.x b.x≠0 then Qdp a.x b.x else Qdp a.y b.y
def Qe7 (P:Program) (f:FuncId):Prop:=∀a b:P2,CallIs P f [a.enc,b.enc] (.i .i64 (Qhw a b))
theorem ltE (a b:P2):ltC Qhw a b=decide (P2.lt a b):=by
 unfold ltC Qhw Qdp P2.lt
 by_cases h1:a.x<b.x
 ·simp[h1]
 ·by_cases h2:b.x<a.x
  ·simp[h1,h2];omega
  ·have h3:a.x=b.x:=by omega
   by_cases h4:a.y<b.y
   ·simp[h3,h4]
   ·by_cases h5:b.y<a.y<;>simp[h3,h4,h5]
theorem swoE:SWO (ltC Qhw) where
 irrefl x:=by rw[ltE];simp[P2.lt]
 trans x y z h1 h2:=by
  rw[ltE,decide_eq_true_eq]at *
  exact P2.lt_trans h1 h2
 ntrans x y z h1 h2:=by
  rw[ltE,decide_eq_false_iff_not]at *
  unfold P2.lt at *;omega
section
variable {P:Program} (hm:P.follows .mixedOrders=true)
include hm
theorem Q5h {f:FuncId} (hf:Qc P f L1k.c L1k.r L1k.n):W9 P f:=We hm hf
theorem Q1p {f:FuncId} (hf:Qc P f L1m.c L1m.r L1m.n):RevC P f:=by
 intro e
 refine PureC.is (Q9 hm hf (qh rfl) ?_) rfl
 unfold L1m.c
 simp[go_sem,P2.enc,P2.cs,L1m.r,P2.rev]
theorem Jm {f:FuncId} (hf:Qc P f L1n.c L1n.r L1n.n):Qii P f:=by
 intro e
 refine PureC.is (Q9 hm hf (qh rfl) ?_) rfl
 unfold L1n.c
 simp[go_sem,P2.enc,P2.cs,L1n.r,P2.und,Q43,Q44]
theorem Or_ok {f:FuncId} (hf:Qc P f L01.c L01.r L01.n):OrC P f:=by
 intro x y
 refine PureC.is (Q9 hm hf (qh rfl) ?_) rfl
 unfold L01.c
 simp[go_sem]
 refine Ql (α:=Nat) (λk=>k<=2/\(1<=k->x=0)/\(2<=k->y=0))
  (λk=>⟨[(3,.i .i64 0),(6,.l 1 [[.i .i64 x],[.i .i64 y]]),(7,.i .i64 2),(8,.i .i64 k)],[]⟩)
  (λk=>2-k) 0 ⟨by omega,by omega,by omega⟩ ?_ ?_
 ·simp[go_sem]
 ·rintro k ⟨hk,h1,h2⟩
  have w1:IntKind.i64.wrap 1=1:=rfl
  have w2:IntKind.i64.wrap 2=2:=rfl
  have:k=0∨k=1∨k=2:=by omega
  rcases this with rfl | rfl | rfl
  ·by_cases hx:x=0
   ·simp[go_sem,hx,w1]
    exact⟨1,⟨by omega,λh=>by omega⟩,by omega,rfl⟩
   ·simp[go_sem,hx,L01.r]
  ·have hx:=h1 (by omega)
   by_cases hy:y=0
   ·simp[go_sem,hx,hy,w2]
    exact⟨2,by omega,by omega,rfl⟩
   ·simp[go_sem,hx,hy,L01.r]
  ·have hx:=h1 (by omega)
   have hy:=h2 (by omega)
   simp[go_sem,hx,hy,L01.r]
theorem Q5g {f fc fo:FuncId} (hf:Qc P f (L1l.c fc fo) L1l.r L1l.n) (hc:CmpC P fc) (ho:OrC P fo):Qe7 P f:=by
 intro a b
 refine PureC.is (Q9 hm hf (qh rfl) ?_) rfl
 unfold L1l.c
 simp[go_sem,P2.enc,P2.cs]
 refine Qp (hc a.x b.x) ?_
 simp[go_sem]
 refine Qp (hc a.y b.y) ?_
 simp[go_sem]
 refine Qp (ho _ _) ?_
 simp[go_sem,L1l.r,Qhw]
theorem Q1q {f fc fe:FuncId} (hf:Qc P f (L1j.c fc fe) L1j.r L1j.n) (hc:Zp P fc) (he:W9 P fe):Q02 P f:=by
 intro m
 refine Qka hm hf (qh rfl) ?_
 unfold L1j.c
 simp[go_sem,Mesh.enc,Mesh.cs]
 refine Q6 (hc m) ?_
 by_cases hz:m.check=0
 case neg =>
  have hT:Qw m=[]:=by simp[Qw,hz]
  simp[go_sem,hz,L1j.r,hT]
 have hl:=(Mesh.check_zero.1 hz).2.1
 simp[go_sem,hz,tsV]
 refine Ql (α:=Nat) (λk=>k<=m.tris.length)
  (λk=>⟨[(3,.mp 1),(14,tsV m.tris),(15,.i .i64 m.tris.length),(16,.i .i64 k)],[.dead,.mp ((Yn (Q8 (m.tris.take k))).map asV)]⟩)
  (λk=>m.tris.length-k) 0 (by omega) ?_ ?_
 ·simp[go_sem,tsV,Q8,Yn]
 ·intro k hk
  by_cases hkl:k=m.tris.length
  ·subst hkl
   rw[qi]
   have hT:Qw m=Yn (Q8 m.tris):=by simp[Qw,hz]
   simp[go_sem,tsV,L1j.r,hT]
   exact Zo _ 2
  ·have hlt:k<m.tris.length:=by omega
   have hp:m.tris[k]?=some m.tris[k]:=q9 hlt
   generalize m.tris[k]=t at hp
   obtain⟨_,hp'⟩:=q8.1 hp
   simp[go_sem,tsV,hlt,hp',tcs]
   refine Q6 (he t) ?_
   have hlen:(Q5 t).length<=3:=Ya t 3
   have hE:=K8 m.tris k
   generalize hA:Q8 (m.tris.take k)=A0
   simp[go_sem,psV]
   refine Ql (α:=Nat) (λj=>j<=(Q5 t).length)
    (λj=>⟨[(3,.mp 1),(14,tsV m.tris),(15,.i .i64 m.tris.length),(16,.i .i64 k),(21,psV (Q5 t)),(22,.i .i64 (Q5 t).length),(23,.i .i64 j)],[.dead,.mp ((Yn (A0++(Q5 t).take j)).map asV)]⟩)
    (λj=>(Q5 t).length-j) 0 (by omega) ?_ ?_
   ·simp[go_sem,tsV,psV]
    exact Zo _ 2
   ·intro j hj
    by_cases hjl:j=(Q5 t).length
    ·subst hjl
     simp (disch:=omega) [go_sem,tsV,psV,Q3]
     exact⟨k+1,by omega,by omega,by omega,by rw[Xk hp,hA],Zo _ 2⟩
    ·have hjlt:j<(Q5 t).length:=by omega
     have hq:(Q5 t)[j]?=some (Q5 t)[j]:=q9 hjlt
     have htk:(Q5 t).take (j+1)=(Q5 t).take j++[(Q5 t)[j]]:=by rw[List.take_add_one,hq];rfl
     generalize (Q5 t)[j]=e at hq htk
     obtain⟨_,hq'⟩:=q8.1 hq
     have hS1:A0++(Q5 t).take (j+1)=(A0++(Q5 t).take j)++[e]:=by rw[htk,<- j2]
     generalize hS:A0++(Q5 t).take j=S at hS1
     have hT1:=Ks S e
     rw[<- hS1]at hT1
     generalize hL:Yn S=L at hT1
     have h1:=X9 e L
     unfold Qbk at hT1
     cases hfn:fnd e L with
     | some p =>
       obtain⟨i,n⟩:=p
       rw[hfn]at h1 hT1
       simp only[Option.map_some]at h1
       simp only at hT1
       have hn:n=S.count e:=by
        have:=Q08 S e
        rw[hL,val,hfn]at this
        exact this
       have hcl:S.count e<=S.length:=List.count_le_length
       have hSl:S.length<=3*4096:=by
        rw[<- hS,<- hA,j3,qw];omega
       have h3:fnd e (L.set i (e,n+1))=some (i,n+1):=(W2 (n':=n+1) hfn).2
       have hil:i<L.length:=(q8.1 (W2 (n':=n+1) hfn).1).1
       have hil':i<(List.map asV L).length:=by simpa using hil
       have wn:IntKind.i64.wrap (n+1)=n+1:=Q3 (by omega) (by omega)
       simp[go_sem,psV,hjlt,hq',pcs,h1,wn,qn hil',List.set_set]
       refine⟨j+1,by omega,by omega,⟨.inr rfl,Q3 (by omega) (by omega)⟩,?_,Zo _ 2⟩
       rw[hT1,List.map_set];rfl
     | none =>
       rw[hfn]at h1 hT1
       simp only[Option.map_none]at h1
       have w1:IntKind.i64.wrap 1=1:=rfl
       simp only at hT1
       simp[go_sem,psV,hjlt,hq',pcs,h1,w1]
       refine⟨j+1,by omega,by omega,⟨.inr rfl,Q3 (by omega) (by omega)⟩,?_,Zo _ 2⟩
       rw[hT1,qx];rfl
end
end Go.Abs
