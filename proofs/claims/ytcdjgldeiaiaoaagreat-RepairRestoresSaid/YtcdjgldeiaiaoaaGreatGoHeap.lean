/- Part of the library on which the proof stands: an abstract machine, its values and its soundness against the model; or what functions of the program do to such values. -/
import Derived.Test.YtcdjgldeiaiaoaaGreatGoOriB
import Derived.Test.YtcdjgldeiaiaoaaGreatAbsSS
set_option linter.unusedVariables false
set_option linter.unusedSimpArgs false
namespace Go.Abs
def L1d.c (L08 L1e:FuncId):C :=(.seq (.reg [Au 1 (.box (.t 0)),Au 2 (.mv (.c .mnil))]) (.seq (.reg [Au 8 (.mkm none),Am 3 8]) (.seq (.seq (.reg [Ag 9 2 1,Au 10 (.call L08 [.t 9]),Ak .neq 11 10 0]) (.ite (.t 11) (.seq (.reg [Am 12 3,Am 2 12]) .ret) .skip)) (.seq (.seq (.reg [Af 13 1 1,Al 14 13,An 15 0 14,Ac 16 0]) (.blk 0 (.loop (.seq (.reg [Aj .lss 17 16 15]) (.seq (.ite (.t 17) .skip (.exit 0)) (.seq (.blk 1 (.seq (.reg [Ai 18 3 14 16,Ag 19 3 18,Au 5 (.alloc [(.i .i64 0),(.i .i64 0),(.i .i64 0)]),As 3 5 19]) (.seq (.reg [Ag 20 3 5,Au 21 (.call L1e [.t 20]),An 22 0 21,Ac 23 0]) (.blk 2 (.loop (.seq
 (.reg [Aj .lss 24 23 22]) (.seq (.ite (.t 24) .skip (.exit 2)) (.seq (.blk 3 (.seq (.reg [Ai 25 2 21 23,Ag 26 2 25,Au 7 (.alloc [(.i .i64 0),(.i .i64 0)]),As 2 7 26]) (.reg [Am 27 3,Ag 28 2 7,⟨none,none,.eqa [1,1] false (.t 28) (.t 28)⟩,Au 29 (.lk [1,1] (.i .i64 0) false (.t 27) (.t 28)),Ad 30 29 1,Au 31 (.ment [1,1] (.i .i64 0) (.t 27) (.t 28)),Ax1 32 1 31,⟨none,none,.est (.t 27) (.t 32) (.t 30)⟩]))) (.reg [Ad 33 23 1,Am 23 33]))))))))) (.reg [Ad 34 16 1,Am 16 34]))))))) (.seq (.reg [Am 35 3,Am 2 35]) .ret)))))
def L1d.r:List Rr:=[.tmp 2]
abbrev L1d.n:Nat:=36
def L1g.c:C :=(.seq (.reg [Au 1 (.box (.t 0)),Au 2 (.alloc [(.i .i64 0),(.i .i64 0)])]) (.seq (.reg [Af 3 1 1,Al 4 3,Af 5 0 1,Al 6 5,Au 7 (.build [(.i .i64 0),(.i .i64 0)] [(0,1,(.t 4)),(1,1,(.t 6))]),As 2 2 7]) .ret))
def L1g.r:List Rr:=[.cell 2 (some 2)]
abbrev L1g.n:Nat:=8
def L1e.c:C :=(.seq (.reg [Au 1 (.box (.t 0)),Az 2]) (.seq (.reg [Az 3]) (.seq (.seq (.reg [Af 6 0 1,Al 7 6,Af 8 1 1,Al 9 8,Au 10 (.build [(.i .i64 0),(.i .i64 0)] [(0,1,(.t 7)),(1,1,(.t 9))]),Af 11 1 1,Al 12 11,Af 13 2 1,Al 14 13,Au 15 (.build [(.i .i64 0),(.i .i64 0)] [(0,1,(.t 12)),(1,1,(.t 14))]),Af 16 2 1,Al 17 16,Af 18 0 1,Al 19 18,Au 20 (.build [(.i .i64 0),(.i .i64 0)] [(0,1,(.t 17)),(1,1,(.t 19))]),Au 21 (.build [(.i .i64 0),(.i .i64 0),(.i .i64 0),(.i .i64 0),(.i .i64 0),(.i .i64 0)] [(0,2,(.t 10)),(2,2,(.t 15)),(4,2,(.t 20))]),Ac 22 0]) (.blk 0 (.loop (.seq (.reg [Ak .lss 23 22 3]) (.seq
 (.ite (.t 23) .skip (.exit 0)) (.seq (.blk 1 (.seq (.reg [Au 24 (.ix 3 2 (some 2) (.t 21) (.t 22)),Au 5 (.alloc [(.i .i64 0),(.i .i64 0)]),As 2 5 24]) (.seq (.reg [Af 25 0 5,Al 26 25,Af 27 1 5,Al 28 27,Aj .neq 29 26 28]) (.ite (.t 29) (.reg [Am 30 3,Ag 31 2 5,Au 32 (.bsi 2 1 [(.i .i64 0),(.i .i64 0)] [(0,(.t 31))]),Au 33 (.app 2 16 (.t 30) (.t 32)),Am 3 33]) .skip)))) (.reg [Ad 34 22 1,Am 22 34]))))))) (.seq (.reg [Am 35 3,Am 2 35]) .ret))))
def L1e.r:List Rr:=[.tmp 2]
abbrev L1e.n:Nat:=36
def L1h.c:C :=(.seq (.reg [Au 1 (.box (.t 0)),Au 2 (.alloc [(.i .i64 0),(.i .i64 0)])]) (.seq (.reg [Af 3 0 1,Al 4 3,Af 5 1 1,Al 6 5,Au 7 (.mn [.t 4,.t 6]),Af 8 0 1,Al 9 8,Af 10 1 1,Al 11 10,Au 12 (.mx [.t 9,.t 11]),Au 13 (.build [(.i .i64 0),(.i .i64 0)] [(0,1,(.t 7)),(1,1,(.t 12))]),As 2 2 13]) .ret))
def L1h.r:List Rr:=[.cell 2 (some 2)]
abbrev L1h.n:Nat:=14
def L1f.c (L00 L01:FuncId):C :=(.seq (.reg [Au 2 (.box (.t 0)),Au 3 (.box (.t 1)),Ac 4 0]) (.seq (.drw [Af 5 0 2,Al 6 5,Af 7 0 3,Al 8 7,Au 9 (.call L00 [.t 6,.t 8]),Af 10 1 2,Al 11 10,Af 12 1 3,Al 13 12,Au 14 (.call L00 [.t 11,.t 13]),Au 15 (.bsi 1 2 [(.i .i64 0)] [(0,(.t 9)),(1,(.t 14))]),Au 16 (.call L01 [.t 15]),Am 4 16] [[],[],[],[],[],[4],[4],[4],[4],[],[],[],[]]) .ret))
def L1f.r:List Rr:=[.tmp 4]
abbrev L1f.n:Nat:=17
def L19.c (L1d L1g slices_SortFunc_api_Edge_api_Edge L1f:FuncId):C :=(.seq (.reg [Au 1 (.box (.t 0)),Az 2]) (.seq (.reg [Ag 7 2 1,Au 8 (.call L1d [.t 7]),Am 3 8]) (.seq (.reg [Az 4]) (.seq (.seq (.reg [Am 9 3,Au 10 (.mrng (.t 9))]) (.blk 0 (.loop (.seq (.reg [Au 11 (.mnx (.t 10)),Ax1 12 0 11]) (.seq (.ite (.t 12) .skip (.exit 0)) (.blk 1 (.seq (.reg [Au 13 (.men (.t 10)),Ax1 14 0 13,Ax1 15 1 13,Au 5 (.alloc [(.i .i64 0),(.i .i64 0)]),As 2 5 14,Am 6 15]) (.seq (.reg [Am 16 6,Am 17 3,Ag 18 2 5,Au 19 (.call L1g [.t 18]),Au 20 (.lk [1,1] (.i .i64 0) false (.t 17) (.t 19)),Aj .gtr 21 16 20]) (.ite (.t 21)
 (.reg [Am 22 4,Ag 23 2 5,Au 24 (.bsi 2 1 [(.i .i64 0),(.i .i64 0)] [(0,(.t 23))]),Au 25 (.app 2 16 (.t 22) (.t 24)),Am 4 25]) .skip))))))))) (.seq (.reg [Am 26 4,Au 27 (.call slices_SortFunc_api_Edge_api_Edge [.t 26,(.c (.f L1f []))])]) (.seq (.reg [Am 28 4,Am 2 28]) .ret))))))
def L19.r:List Rr:=[.tmp 2]
abbrev L19.n:Nat:=29
def L1a.c (L08 L19:FuncId):C :=(.seq (.reg [Au 1 (.box (.t 0)),Ab 2 false]) (.seq (.reg [Ag 3 2 1,Au 4 (.call L08 [.t 3]),Ak .eql 5 4 0,Am 6 5,Av 7 6 (.ld (some 2) (.t 1)),Av 8 6 (.call L19 [.t 7]),Av 9 6 (.len 0 (.t 8)),Av 10 6 (.bin .eql (.t 9) (.c (.i .i64 0))),Ap 11 6 10,Am 2 11]) .ret))
def L1a.r:List Rr:=[.tmp 2]
abbrev L1a.n:Nat:=12
def L1c.c (L08 L1e L1h slices_Sort_int_int:FuncId):C :=(.seq (.reg [Au 1 (.box (.t 0)),Az 2]) (.seq (.seq (.reg [Ag 17 2 1,Au 18 (.call L08 [.t 17]),Ak .neq 19 18 0]) (.ite (.t 19) (.seq (.reg [Az 2]) .ret) .skip)) (.seq (.reg [Au 20 (.mkm none),Am 3 20]) (.seq (.seq (.reg [Af 21 1 1,Al 22 21,An 23 0 22,Ac 24 0]) (.blk 0 (.loop (.seq (.reg [Aj .lss 25 24 23]) (.seq (.ite (.t 25) .skip (.exit 0)) (.seq (.blk 1 (.seq (.reg [Am 26 24,Ai 27 3 22 24,Ag 28 3 27,Au 5 (.alloc [(.i .i64 0),(.i .i64 0),(.i .i64 0)]),Am 4 26,As 3 5 28]) (.seq (.reg [Ag 29 3 5,Au 30 (.call L1e [.t 29]),An 31 0 30,Ac 32 0])
 (.blk 2 (.loop (.seq (.reg [Aj .lss 33 32 31]) (.seq (.ite (.t 33) .skip (.exit 2)) (.seq (.blk 3 (.seq (.reg [Ai 34 2 30 32,Ag 35 2 34,Au 7 (.alloc [(.i .i64 0),(.i .i64 0)]),As 2 7 35]) (.drw [Am 36 3,Ag 37 2 7,Au 38 (.call L1h [.t 37]),Am 39 3,Ag 40 2 7,Au 41 (.call L1h [.t 40]),Au 42 (.lk [1,1] .nil false (.t 39) (.t 41)),Am 43 4,Au 44 (.bsi 1 1 [(.i .i64 0)] [(0,(.t 43))]),Au 45 (.app 1 8 (.t 42) (.t 44)),⟨none,none,.mup [1,1] (.t 36) (.t 38) (.t 45)⟩] [[],[],[],[],[2],[],[],[],[],[],[]]))) (.reg [Ad 46 32 1,Am 32 46]))))))))) (.reg [Ad 47 24 1,Am 24 47]))))))) (.seq (.reg [Az 8]) (.seq (.reg [
 Af 48 1 1,Al 49 48,An 50 0 49,Au 51 (.mks 1 1 [(.b false)] (.t 50)),Am 9 51]) (.seq (.seq (.reg [Af 52 1 1,Al 53 52,An 54 0 53,Ac 55 0]) (.blk 4 (.loop (.seq (.reg [Aj .lss 56 55 54]) (.seq (.ite (.t 56) .skip (.exit 4)) (.seq (.blk 5 (.seq (.reg [Am 57 55,Am 10 57]) (.seq (.seq (.reg [Am 58 9,Am 59 10,Ai 60 1 58 59,Al 61 60]) (.ite (.t 61) (.exit 5) .skip)) (.seq (.reg [Am 62 9,Am 63 10,Ai 64 1 62 63,⟨none,none,.st 1 (.t 64) (.c (.b true))⟩]) (.seq (.reg [Am 65 10,Au 66 (.bso 1 1 [(.i .i64 0)] [(0,(.t 65))]),Am 11 66]) (.seq (.seq (.reg [Ac 12 0]) (.blk 6 (.loop (.seq (.seq (.reg [Am 67 12,Am 68 11,
 An 69 0 68,Aj .lss 70 67 69]) (.ite (.t 70) .skip (.exit 6))) (.seq (.blk 7 (.seq (.drw [Af 73 1 1,Al 74 73,Am 75 11,Am 76 12,Ai 77 1 75 76,Al 78 77,Ai 79 3 74 78,Ag 80 3 79,Au 81 (.call L1e [.t 80]),An 82 0 81,Ac 83 0] []) (.blk 8 (.loop (.seq (.reg [Aj .lss 84 83 82]) (.seq (.ite (.t 84) .skip (.exit 8)) (.seq (.blk 9 (.seq (.reg [Ai 85 2 81 83,Ag 86 2 85,Au 14 (.alloc [(.i .i64 0),(.i .i64 0)]),As 2 14 86]) (.seq (.reg [Am 87 3,Ag 88 2 14,Au 89 (.call L1h [.t 88]),Au 90 (.lk [1,1] .nil false (.t 87) (.t 89)),An 91 0 90,Ac 92 0]) (.blk 10 (.loop (.seq (.reg [Aj .lss 93 92 91]) (.seq (.ite (.t 93)
 .skip (.exit 10)) (.seq (.blk 11 (.seq (.reg [Ai 94 1 90 92,Al 95 94,Am 16 95]) (.seq (.reg [Am 96 9,Am 97 16,Ai 98 1 96 97,Al 99 98,Au 100 (.un .not (.t 99))]) (.ite (.t 100) (.seq (.reg [Am 101 9,Am 102 16,Ai 103 1 101 102,⟨none,none,.st 1 (.t 103) (.c (.b true))⟩]) (.reg [Am 104 11,Am 105 16,Au 106 (.bsi 1 1 [(.i .i64 0)] [(0,(.t 105))]),Au 107 (.app 1 8 (.t 104) (.t 106)),Am 11 107])) .skip)))) (.reg [Ad 108 92 1,Am 92 108]))))))))) (.reg [Ad 109 83 1,Am 83 109])))))))) (.reg [Am 71 12,Ad 72 71 1,Am 12 72])))))) (.seq (.reg [Am 110 11,Au 111 (.call slices_Sort_int_int [.t 110])]) (.reg [Am 112 8,
 Am 113 11,Au 114 (.bso 1 1 [.nil] [(0,(.t 113))]),Au 115 (.app 1 24 (.t 112) (.t 114)),Am 8 115])))))))) (.reg [Ad 116 55 1,Am 55 116]))))))) (.seq (.reg [Am 117 8,Am 2 117]) .ret))))))))
def L1c.r:List Rr:=[.tmp 2]
abbrev L1c.n:Nat:=118
theorem Wv {α:Type} {p:List α->Prop} (h0:p []) (h1:∀E x,p E->p (E++[x])) (E:List α):p E:=by
 rw[<- E.reverse_reverse]
 induction E.reverse with
 | nil=>exact h0
 | cons x l ih=>rw[List.reverse_cons];exact h1 _ _ ih
def Q9o (L:List (P2 × Int)) (e:P2):List (P2 × Int) :=
 match fnd e L with
 | some (i,n)=>L.set i (e,n+1)
 | none=>L++[(e,1)]
def Yf (E:List P2):List (P2 × Int):=E.foldl Q9o []
theorem Ka (E:List P2) (e:P2):Yf (E++[e])=Q9o (Yf E) e:=by simp[Yf]
def val (e:P2) (L:List (P2 × Int)):Int:=match fnd e L with | some (_,n)=>n | none=>0
theorem Q30 {e e':P2} (hne:e'≠e) {n':Int}:∀{L:List (P2 × Int)} {i:Nat} {n:Int},fnd e L=some (i,n)->fnd e' (L.set i (e,n'))=fnd e' L
 | [],i,n,h=>by simp[fnd]at h
 | (k,m)::r,i,n,h=>by
   simp only[fnd]at h
   by_cases hk:e=k
   ·simp[hk]at h
    obtain⟨rfl,rfl⟩:=h
    subst hk
    simp[fnd,hne]
   ·simp only[hk,if_false,qa,Prod.mk.injEq]at h
    obtain⟨⟨j,n1⟩,hj,rfl,rfl⟩:=h
    have:=Q30 (n':=n') hne hj
    simp only[List.set_cons_succ,fnd,this]
theorem Q32 {e e':P2} (hne:e'≠e) {n:Int}:∀{L:List (P2 × Int)},fnd e' (L++[(e,n)])=fnd e' L
 | []=>by simp[fnd,hne]
 | (k,m)::r=>by
   simp only[List.cons_append,fnd,Q32 hne]
theorem Qgx (L:List (P2 × Int)) (e e':P2):val e' (Q9o L e)=val e' L+if e'=e then 1 else 0:=by
 unfold Q9o
 cases h:fnd e L with
 | none =>
   simp only
   by_cases he:e'=e
   ·subst he
    simp only[val,Q6i h,h,if_true];omega
   ·simp only[val,Q32 he,he,if_false];omega
 | some p =>
   obtain⟨i,n⟩:=p
   simp only
   by_cases he:e'=e
   ·subst he
    simp only[val,(Kg (n':=n+1) h).2,h,if_true]
   ·simp only[val,Q30 he h,he,if_false];omega
theorem Iz (E:List P2) (e:P2):val e (Yf E)=E.count e:=by
 refine Wv (p:=λE=>val e (Yf E)=E.count e) ?_ ?_ E
 ·rfl
 ·intro E x ih
  rw[Ka,Qgx,ih,List.count_append,List.count_singleton]
  by_cases h:e=x
  ·subst h;simp
  ·have:¬ x=e:=λhh=>h hh.symm
   simp[h,this]
theorem Qid {L:List (P2 × Int)} {i:Nat} {e:P2} {n n':Int} (h:L[i]?=some (e,n)):(L.set i (e,n')).map Prod.fst=L.map Prod.fst:=by
 rw[List.map_set]
 apply qy
 intro j
 by_cases hj:i=j
 ·subst hj
  have:=(q8.1 h).1
  rw[qn (by simpa using this)]
  simp[h]
 ·rw[qu hj]
theorem Qf5 (L:List (P2 × Int)) (e:P2):(Q9o L e).map Prod.fst=if (fnd e L).isSome then L.map Prod.fst else L.map Prod.fst++[e]:=by
 unfold Q9o
 cases h:fnd e L with
 | none=>simp
 | some p =>
   obtain⟨i,n⟩:=p
   simp only[Option.isSome_some,if_true]
   exact Qid (Kg (n':=n) h).1
theorem fnd_keys {e:P2} {L:List (P2 × Int)}:fnd e L=none↔e∉L.map Prod.fst:=by
 rw[Q31]
 constructor
 ·rintro h hm
  obtain⟨p,hp,rfl⟩:=qp.1 hm
  exact h p hp rfl
 ·rintro h p hp rfl
  exact h (List.mem_map_of_mem hp)
theorem Kb (E:List P2):((Yf E).map Prod.fst).Nodup/\∀e,e∈(Yf E).map Prod.fst↔e∈E:=by
 refine Wv (p:=λE=>((Yf E).map Prod.fst).Nodup/\∀e,e∈(Yf E).map Prod.fst↔e∈E) ?_ ?_ E
 ·simp[Yf]
 ·intro E x ih
  rw[Ka,Qf5]
  cases h:fnd x (Yf E) with
  | none =>
    have h':=fnd_keys.1 h
    simp only[Option.isSome_none,Bool.false_eq_true,if_false]
    refine⟨?_,λe=>?_⟩
    ·rw[List.nodup_append]
     exact⟨ih.1,by simp,λa ha b hb=>by simp at hb;subst hb;rintro rfl;exact h' ha⟩
    ·rw[qg,ih.2,qg]
  | some p =>
    have h':x∈(Yf E).map Prod.fst:=j7 λhh=>by rw[fnd_keys.2 hh]at h;simp at h
    simp only[Option.isSome_some,if_true]
    refine⟨ih.1,λe=>?_⟩
    rw[ih.2,qg]
    constructor
    ·exact .inl
    ·rintro (h2 | h2)
     ·exact h2
     ·simp at h2;subst h2;exact(ih.2 e).1 h'
theorem Je:∀{L:List (P2 × Int)} {i:Nat} {e:P2} {n:Int},(L.map Prod.fst).Nodup->L[i]?=some (e,n)->fnd e L=some (i,n)
 | [],i,e,n,_,h=>by simp at h
 | (k,m)::r,0,e,n,_,h=>by simp at h;obtain⟨rfl,rfl⟩:=h;simp[fnd]
 | (k,m)::r,i+1,e,n,hn,h=>by
   simp only[List.map_cons,List.nodup_cons]at hn
   simp only[List.getElem?_cons_succ]at h
   have hk:¬ e=k:=by
    rintro rfl
    exact hn.1 (qp.2 ⟨(e,n),qb h,rfl⟩)
   simp[fnd,hk,Je hn.2 h]
theorem Q4j {E:List P2} {i:Nat} {e:P2} {n:Int} (h:(Yf E)[i]?=some (e,n)):e∈E/\n=E.count e:=by
 have hk:=Kb E
 refine⟨(hk.2 e).1 (qp.2 ⟨(e,n),qb h,rfl⟩),?_⟩
 have:=Iz E e
 rw[val,Je hk.1 h]at this
 exact this
theorem Qh0 {E:List P2} {e:P2} (h:e∈E):∃i:Nat,(Yf E)[i]?=some (e,(E.count e:Int)):=by
 obtain⟨p,hp,rfl⟩:=qp.1 (((Kb E).2 e).2 h)
 obtain⟨i,hi⟩:=qr hp
 refine⟨i,?_⟩
 rw[hi]
 have:=(Q4j (e:=p.1) (n:=p.2) hi).2
 rw[<- this]
def left (n:Nat) (seen:List Nat):Nat:=((List.range n).filter λi=>!seen.contains i).length
theorem left_lt {n i:Nat} {seen:List Nat} (hi:i<n) (hs:i∉seen):left n (seen++[i])<left n seen:=by
 have h:(List.range n).filter (λj=>!(seen++[i]).contains j)=((List.range n).filter λj=>!seen.contains j).filter (λj=>!(j == i)):=by
  rw[List.filter_filter]
  congr 1
  funext j
  by_cases h1:j∈seen<;>by_cases h2:j=i<;>simp[h1,h2]
 unfold left
 rw[h,List.length_filter_lt_length_iff_exists]
 exact⟨i,by simp[hi,hs],by simp⟩
def P2.lt (a b:P2):Prop:=a.x<b.x∨(a.x=b.x/\a.y<b.y)
instance (a b:P2):Decidable (P2.lt a b):=by unfold P2.lt;infer_instance
theorem P2.lt_irrefl (a:P2):¬ P2.lt a a:=by unfold P2.lt;omega
theorem P2.lt_trans {a b c:P2} (h1:P2.lt a b) (h2:P2.lt b c):P2.lt a c:=by unfold P2.lt at *;omega
theorem P2.lt_total {a b:P2} (h:¬ P2.lt a b) (h':¬ P2.lt b a):a=b:=by
 unfold P2.lt at *
 have h1:a.x=b.x:=by omega
 have h2:a.y=b.y:=by omega
 cases a;cases b;simp_all
theorem P2.lt_asymm {a b:P2} (h1:P2.lt a b):¬ P2.lt b a:=by unfold P2.lt at *;omega
def asc (l:List P2):Prop:=l.Pairwise P2.lt
theorem Q79:∀{l1 l2:List P2},asc l1->asc l2->(∀a,a∈l1↔a∈l2)->l1=l2
 | [],[],_,_,_=>rfl
 | [],y::l2,_,_,h=>by have:=(h y).2 (by simp);simp at this
 | x::l1,[],_,_,h=>by have:=(h x).1 (by simp);simp at this
 | x::l1,y::l2,h1,h2,h=>by
   have p1:=j9.1 h1
   have p2:=j9.1 h2
   have hxy:x=y:=by
    rcases List.mem_cons.1 ((h x).1 (by simp)) with h3 | h3
    ·exact h3
    ·rcases List.mem_cons.1 ((h y).2 (by simp)) with h4 | h4
     ·exact h4.symm
     ·exact absurd (p2.1 x h3) (P2.lt_asymm (p1.1 y h4))
   subst hxy
   rw[Q79 p1.2 p2.2 λa=>?_]
   constructor
   ·intro ha
    rcases List.mem_cons.1 ((h a).1 (by simp[ha])) with h3 | h3
    ·subst h3;exact absurd (p1.1 a ha) (P2.lt_irrefl a)
    ·exact h3
   ·intro ha
    rcases List.mem_cons.1 ((h a).2 (by simp[ha])) with h3 | h3
    ·subst h3;exact absurd (p2.1 a ha) (P2.lt_irrefl a)
    ·exact h3
def Q8n (e:P2):List P2->List P2
 | []=>[e]
 | x::l=>if e=x then x::l else if P2.lt e x then e::x::l else x::Q8n e l
theorem mem_insP {e a:P2}:∀{l:List P2},a∈Q8n e l↔a=e∨a∈l
 | []=>by simp[Q8n]
 | x::l=>by
   simp only[Q8n]
   split
   ·rename_i h;subst h;simp
   ·split
    ·simp
    ·simp[mem_insP];constructor<;>(rintro (h | h | h)<;>simp[h])
theorem Q8m {e:P2}:∀{l:List P2},asc l->asc (Q8n e l)
 | [],_=>by simp[Q8n,asc]
 | x::l,h=>by
   have hc:=j9.1 h
   simp only[Q8n]
   split
   ·exact h
   ·split
    ·rename_i h1 h2
     refine j9.2 ⟨λb hb=>?_,h⟩
     rcases List.mem_cons.1 hb with rfl | hb
     ·exact h2
     ·exact P2.lt_trans h2 (hc.1 b hb)
    ·rename_i h1 h2
     refine j9.2 ⟨λb hb=>?_,Q8m hc.2⟩
     rcases mem_insP.1 hb with rfl | hb
     ·exact j7 λh3=>h1 (P2.lt_total h2 h3)
     ·exact hc.1 b hb
def Q3d (l:List P2):List P2:=l.foldr Q8n []
theorem Br (l:List P2):asc (Q3d l):=by
 induction l with
 | nil=>simp[Q3d,asc]
 | cons x l ih=>exact Q8m ih
theorem Bg {l:List P2} {a:P2}:a∈Q3d l↔a∈l:=by
 induction l with
 | nil=>simp[Q3d]
 | cons x l ih=>simp only[Q3d,List.foldr_cons,mem_insP,List.mem_cons];rw[<- ih];rfl
theorem Q9m {ys xs:List P2} (hp:ys.Perm xs) (hn:xs.Nodup) (hs:ys.Pairwise λa b=>¬ P2.lt b a):ys=Q3d xs:=by
 refine Q79 ?_ (Br xs) λa=>by rw[hp.mem_iff,Bg]
 have hn':ys.Nodup:=hp.symm.nodup hn
 exact(List.Pairwise.and hs hn').imp λh=>j7 λh3=>h.2 (P2.lt_total h3 h.1)
def L00.c (L02:FuncId):C :=(.seq (.reg [Ac 4 0]) (.seq (.reg [Am 7 0,Au 8 (.call L02 [.t 7]),Am 5 8]) (.seq (.reg [Am 9 1,Au 10 (.call L02 [.t 9]),Am 6 10]) (.seq (.seq (.reg [Am 11 5]) (.ite (.t 11) (.seq (.seq (.reg [Am 12 6]) (.ite (.t 12) (.seq (.reg [Ac 4 0]) .ret) .skip)) (.seq (.reg [Ac 4 (-1)]) .ret)) .skip)) (.seq (.seq (.reg [Am 13 6]) (.ite (.t 13) (.seq (.reg [Ac 4 1]) .ret) .skip)) (.seq (.seq (.reg [Am 14 0,Am 15 1,Aj .lss 16 14 15]) (.ite (.t 16) (.seq (.reg [Ac 4 (-1)]) .ret) .skip)) (.seq (.seq (.reg [Am 17 0,Am 18 1,Aj .gtr 19 17 18]) (.ite (.t 19) (.seq (.reg [Ac 4 1]) .ret)
 .skip)) (.seq (.reg [Ac 4 0]) .ret))))))))
def L00.r:List Rr:=[.tmp 4]
abbrev L00.n:Nat:=20
def L02.c:C :=(.seq (.reg [Ab 2 false]) (.seq (.reg [Am 3 0,Am 4 0,Aj .neq 5 3 4,Am 2 5]) .ret))
def L02.r:List Rr:=[.tmp 2]
abbrev L02.n:Nat:=6
def L01.c:C :=(.seq (.reg [Ac 2 0]) (.seq (.reg [Ac 3 0]) (.seq (.seq (.reg [Am 6 0,An 7 0 6,Ac 8 0]) (.blk 0 (.loop (.seq (.reg [Aj .lss 9 8 7]) (.seq (.ite (.t 9) .skip (.exit 0)) (.seq (.blk 1 (.seq (.reg [Ai 10 1 6 8,Al 11 10,Am 5 11]) (.seq (.reg [Am 12 5,Am 13 3,Aj .neq 14 12 13]) (.ite (.t 14) (.seq (.reg [Am 15 5,Am 2 15]) .ret) .skip)))) (.reg [Ad 16 8 1,Am 8 16]))))))) (.seq (.reg [Am 17 3,Am 2 17]) .ret))))
def L01.r:List Rr:=[.tmp 2]
abbrev L01.n:Nat:=18
def Qbq (x y:Int):Int:=if x<y then -1 else if y<x then 1 else 0
def CmpC (P:Program) (f:FuncId):Prop:=∀x y:Int,CallIs P f [.i .i64 x,.i .i64 y] (.i .i64 (Qbq x y))
def NaNC (P:Program) (f:FuncId):Prop:=∀x:Int,CallIs P f [.i .i64 x] (.b false)
section
variable {P:Program} (hm:P.follows .mixedOrders=true)
include hm
theorem Qis {f:FuncId} (hf:Qb P f L02.c L02.r L02.n):NaNC P f:=by
 intro x
 refine PureC.is (Q9 hm hf (qh rfl) ?_) rfl
 unfold L02.c
 simp[go_sem,L02.r]
theorem Qcc {f fn:FuncId} (hf:Qb P f (L00.c fn) L00.r L00.n) (hn:NaNC P fn):CmpC P f:=by
 intro x y
 refine PureC.is (Q9 hm hf (qh rfl) ?_) rfl
 unfold L00.c
 simp[go_sem]
 refine Q6 (hn x) ?_
 simp[go_sem]
 refine Q6 (hn y) ?_
 by_cases h1:x<y
 ·simp[go_sem,h1,L00.r,Qbq]
 ·by_cases h2:y<x<;>simp[go_sem,h1,h2,L00.r,Qbq]
end
theorem Qd (h l:List O) (k:Nat):(h++l)[h.length+k]?=l[k]?:=by
 rw[qf (by omega)];congr 1;omega
theorem Qf (h l:List O):(h++l)[h.length]?=l[0]?:=Qd h l 0
theorem Z4 (h l:List O) (k:Nat) (o:O):(h++l).set (h.length+k) o=h++l.set k o:=by
 rw[List.set_append_right _ _ (by omega)];congr 2;omega
theorem Z2 (h l:List O) (o:O):(h++l).set h.length o=h++l.set 0 o:=Z4 h l 0 o
theorem Zc {n:Nat} {a b:List O}:∀{h:List O},(∀o∈h,o.cl n)->WeakH n a b->WeakH n (h++a) (h++b)
 | [],_,hw=>hw
 | o::h,hc,hw=>⟨.inr ⟨rfl,hc o (by simp)⟩,Zc (λo' ho=>hc o' (by simp[ho])) hw⟩
section
variable {J:Nat->Prop} {m:List Ent} {w:World}
theorem Q0x {id:Nat} {e:Ent} (h:m[id]?=some e):id<m.length:=(q8.1 h).1
theorem Qkv {x:V} {c:Value} (h:RL J m w x c):x.cl0 m.length=true:=by
 cases x<;>simp only[V.cl0]<;>simp only[RL]at h
 case own id g off len=>obtain⟨_,e,he,_⟩:=h;simpa using Q0x he
 case p id g el j=>obtain⟨_,e,he,_⟩:=h;simpa using Q0x he
 case mp id=>obtain⟨_,e,he,_⟩:=h;simpa using Q0x he
theorem Qkx {x:V} {c:Value} (h:RC J m w x c):x.cl1 m.length=true:=by
 cases x
 case f fn caps =>
  obtain⟨cs,_,hp⟩:=h
  simp only[V.cl1,qj]
  intro x hx
  obtain⟨i,hi⟩:=qr hx
  have hlt:=(q8.1 hi).1
  have hl:=hp.1
  exact Qkv (hp.2 i x cs.toList[i] hi (q9 (by omega)))
 case a cs=>exact(show RL J m w (.a cs) c from h).elim
 case t vs=>exact(show RL J m w (.t vs) c from h).elim
 all_goals
  simp only[RC]at h
  simp only[V.cl1]
  exact Qkv h
theorem RC_cl {x:V} {c:Value} (h:RC J m w x c):x.cl m.length=true:=by
 cases x
 case a cs=>exact(show RL J m w (.a cs) c from h).elim
 case t vs=>exact(show RL J m w (.t vs) c from h).elim
 all_goals
  simp only[V.cl]
  exact Qkx h
theorem Qdm {x:V} {c:Value} (h:RA J m w x c):x.cl m.length=true:=by
 cases x
 case a cs =>
  obtain⟨arr,_,hp⟩:=h
  simp only[V.cl,qj]
  intro x hx
  obtain⟨i,hi⟩:=qr hx
  have hlt:=(q8.1 hi).1
  have hl:=hp.1
  exact Qkx (hp.2 i x arr.toList[i] hi (q9 (by omega)))
 case t vs=>exact(show RC J m w (.t vs) c from h).elim
 case any=>rfl
 all_goals
  simp only[RA]at h
  exact RC_cl h
theorem Qgk {h:List O} (hr:RS J h m w):∀o∈h,o.cl h.length:=by
 intro o ho
 obtain⟨id,hid⟩:=qr ho
 have hlt:=(q8.1 hid).1
 have hl:=hr.len
 have hO:=hr.obj id m[id] o (q9 (by omega)) hid
 rw[<- hl]
 cases o with
 | dead=>trivial
 | arr g sz els =>
   obtain⟨_,_,_,hb⟩:=hO
   intro el hel x hx
   obtain⟨i,hi⟩:=qr hel
   obtain⟨j,hj⟩:=qr hx
   split at hb
   ·obtain⟨rfl,_⟩:=hb;simp at hi
   ·obtain⟨_,_,c,ty,fz,_,_,_,hc⟩:=hb
    obtain⟨cv,_,hcv⟩:=hc i el j x hi hj
    exact RC_cl hcv
 | mp es =>
   obtain⟨_,B,_,ms,_,_,hc⟩:=hO
   intro e he
   obtain⟨i,hi⟩:=qr he
   obtain⟨en,_,_,h1,h2⟩:=hc i e.1 e.2 hi
   exact⟨Qdm h1,Qdm h2⟩
 | md es =>
   obtain⟨_,B,_,ms,c,_,_,hc⟩:=hO
   intro e he
   obtain⟨i,hi⟩:=qr he
   obtain⟨en,_,h1,h2⟩:=hc i e.1 e.2 hi
   exact⟨Qdm h1,Qdm h2⟩
 | it mid since seen =>
   obtain⟨_,_,_,B,_,mb,_,hm⟩:=hO
   intro i hi
   subst hi
   obtain⟨e',he',_⟩:=hm
   exact Q0x he'
end
theorem Q9f {x:V} {n k:Nat} (hnk:n<=k) (h:x.cl0 n=true):x.cl0 k=true:=by
 cases x<;>simp only[V.cl0,decide_eq_true_eq]at h ⊢<;>omega
theorem Q9e {x:V} {n k:Nat} (hnk:n<=k) (h:x.cl1 n=true):x.cl1 k=true:=by
 cases x
 case f fn caps=>simp only[V.cl1,qj]at h ⊢;exact λy hy=>Q9f hnk (h y hy)
 all_goals
  simp only[V.cl1]at h ⊢
  exact Q9f hnk h
theorem Ij {x:V} {n k:Nat} (hnk:n<=k) (h:x.cl n=true):x.cl k=true:=by
 cases x
 case a cs=>simp only[V.cl,qj]at h ⊢;exact λy hy=>Q9e hnk (h y hy)
 case t=>simp[V.cl]at h
 all_goals
  simp only[V.cl]at h ⊢
  exact Q9e hnk h
theorem Ql2 {o:O} {n k:Nat} (hnk:n<=k) (h:o.cl n):o.cl k:=by
 cases o with
 | dead=>trivial
 | arr g sz els=>exact λel hel x hx=>Ij hnk (h el hel x hx)
 | mp es=>exact λe he=>⟨Ij hnk (h e he).1,Ij hnk (h e he).2⟩
 | md es=>exact λe he=>⟨Ij hnk (h e he).1,Ij hnk (h e he).2⟩
 | it mid since seen=>exact λi hi=>Nat.lt_of_lt_of_le (h i hi) hnk
theorem X8 {P:Program} {f:FuncId} {vs:List V} {h:List O} {R:V->List O->Prop} (hc:(∀n,h.length<=n->∀o∈h,o.cl n)->ACall P f vs h R):ACall P f vs h R:=by
 intro J m w cargs hr hp
 exact hc (λn hn o ho=>Ql2 hn (Qgk hr o ho)) J m w cargs hr hp
theorem K6 {P:Program} {f:FuncId} {vs:List V} {h h0:List O} {r0:V} {k:V->List O->Prop} (hc:ACall P f vs h (λr h'=>r=r0/\h'=h0)) (hk:k r0 h0):ACall P f vs h k :=
 hc.mono λr h' hh=>by rw[hh.1,hh.2];exact hk
end Go.Abs
