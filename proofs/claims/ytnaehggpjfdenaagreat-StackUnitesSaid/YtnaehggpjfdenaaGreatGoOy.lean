/- Part of the library on which the proof stands: an abstract machine, its values and its soundness against the model; or what functions of the program do to such values. -/
import Derived.Test.YtnaehggpjfdenaaGreatGoStB
import Derived.Test.YtnaehggpjfdenaaGreatGoOriA
import Derived.Test.YtnaehggpjfdenaaGreatGoSet
import Derived.Test.YtnaehggpjfdenaaGreatGoRw
import Derived.Test.YtnaehggpjfdenaaGreatGoSkD
import Derived.Test.YtnaehggpjfdenaaGreatGoRevC
import Derived.Test.YtnaehggpjfdenaaGreatGoOw
set_option linter.unusedVariables false
set_option linter.unusedSimpArgs false
set_option maxHeartbeats 8000000
namespace Go.Abs
def L05.c:C :=(.seq (.reg [Au 2 (.box (.t 0)),Au 3 (.box (.t 1)),Ac 4 0]) (.seq (.blk 0 (.seq (.reg [Af 6 0 2,Al 7 6,Af 8 0 3,Al 9 8,Aj .lss 10 7 9,Am 11 10,Aw 12 11 (.fa 0 (.t 2)),Aw 13 11 (.ld none (.t 12)),Aw 14 11 (.fa 0 (.t 3)),Aw 15 11 (.ld none (.t 14)),Aw 16 11 (.bin .eql (.t 13) (.t 15)),Aw 17 11 (.mv (.t 16)),Av 18 17 (.fa 1 (.t 2)),Av 19 17 (.ld none (.t 18)),Av 20 17 (.fa 1 (.t 3)),Av 21 17 (.ld none (.t 20)),Av 22 17 (.bin .lss (.t 19) (.t 21)),Aw 23 11 (.pick (.t 17) (.t 22) (.c (.b false))),Ao 24 11 23,Am 5 24]) (.ite (.t 5) (.seq (.reg [Ac 4 (-1)]) .ret) (.seq (.reg [Ag 26 2 2,
 Ag 27 2 3,Au 28 (.eqa [1,1] false (.t 26) (.t 27)),Am 25 28]) (.ite (.t 25) (.seq (.reg [Ac 4 0]) .ret) .skip))))) (.seq (.reg [Ac 4 1]) .ret)))
def L05.r:List Rr:=[.tmp 4]
abbrev L05.n:Nat:=29
def L03.c:C :=(.seq (.reg [Ab 2 false]) (.seq (.reg [Au 8 (.mkm none),Am 3 8]) (.seq (.seq (.reg [Am 9 0,An 10 0 9,Ac 11 0]) (.blk 0 (.loop (.seq (.reg [Aj .lss 12 11 10]) (.seq (.ite (.t 12) .skip (.exit 0)) (.seq (.blk 1 (.seq (.reg [Ai 13 4 9 11,Ag 14 4 13,Au 5 (.alloc [(.i .i64 0),(.i .i64 0),(.i .i64 0),(.i .i64 0)]),As 4 5 14]) (.seq (.reg [Am 15 3,Af 16 0 5,Ag 17 2 16,⟨none,none,.eqa [1,1] false (.t 17) (.t 17)⟩,Au 18 (.lk [1,1] (.i .i64 0) false (.t 15) (.t 17)),Ad 19 18 1,Au 20 (.ment [1,1] (.i .i64 0) (.t 15) (.t 17)),Ax1 21 1 20,⟨none,none,.est (.t 15) (.t 21) (.t 19)⟩]) (.reg [Am 22 3,
 Af 23 2 5,Ag 24 2 23,⟨none,none,.eqa [1,1] false (.t 24) (.t 24)⟩,Au 25 (.lk [1,1] (.i .i64 0) false (.t 22) (.t 24)),Ak .sub 26 25 1,Au 27 (.ment [1,1] (.i .i64 0) (.t 22) (.t 24)),Ax1 28 1 27,⟨none,none,.est (.t 22) (.t 28) (.t 26)⟩])))) (.reg [Ad 29 11 1,Am 11 29]))))))) (.seq (.seq (.reg [Am 30 3,Au 31 (.mrng (.t 30))]) (.blk 2 (.loop (.seq (.reg [Au 32 (.mnx (.t 31)),Ax1 33 0 32]) (.seq (.ite (.t 33) .skip (.exit 2)) (.blk 3 (.seq (.reg [Au 34 (.men (.t 31)),Ax1 35 1 34,Am 7 35]) (.seq (.reg [Am 36 7,Ak .neq 37 36 0]) (.ite (.t 37) (.seq (.reg [Ab 2 false]) .ret) .skip))))))))) (.seq (.reg [
 Ab 2 true]) .ret)))))
def L03.r:List Rr:=[.tmp 2]
abbrev L03.n:Nat:=38
def L07.c:C :=(.seq (.reg [Au 3 (.box (.t 1)),Au 4 (.alloc [(.i .i64 0),(.i .i64 0)])]) (.seq (.reg [Am 6 0,Ag 7 2 3,Au 8 (.lk [1,1] .nil false (.t 6) (.t 7)),Am 5 8]) (.seq (.seq (.reg [Am 9 5,An 10 0 9,Ak .eql 11 10 1]) (.ite (.t 11) (.reg [Am 12 0,Ag 13 2 3,⟨none,none,.mdel [1,1] (.t 12) (.t 13)⟩]) (.drw [Am 14 0,Ag 15 2 3,Am 16 5,Au 17 (.slc 2 (.t 16) (some (.c (.i .i64 1))) none),⟨none,none,.mup [1,1] (.t 14) (.t 15) (.t 17)⟩] []))) (.seq (.reg [Am 18 5,Au 19 (.ia 2 (.t 18) (.c (.i .i64 0))),Ag 20 2 19,As 2 4 20]) .ret))))
def L07.r:List Rr:=[.cell 4 (some 2)]
abbrev L07.n:Nat:=21
def L06.c (L07:FuncId):C :=(.seq (.reg [Au 3 (.box (.t 1)),Au 4 (.alloc [.nil])]) (.seq (.reg [Ag 7 2 3,Au 8 (.bso 2 1 [(.i .i64 0),(.i .i64 0)] [(0,(.t 7))]),Au 9 (.build [.nil] [(0,1,(.t 8))]),Au 5 (.alloc [.nil]),As 1 5 9]) (.seq (.seq (.reg [Am 10 0,Ag 11 2 3,Au 12 (.call L07 [.t 10,.t 11]),Au 6 (.alloc [(.i .i64 0),(.i .i64 0)]),As 2 6 12]) (.blk 0 (.loop (.seq (.seq (.reg [Ag 13 2 6,Ag 14 2 3,Au 15 (.eqa [1,1] true (.t 13) (.t 14)),Am 16 15,Av 17 16 (.mv (.t 0)),Av 18 16 (.ld (some 2) (.t 6)),Av 19 16 (.lk [1,1] .nil false (.t 17) (.t 18)),Av 20 16 (.len 0 (.t 19)),Av 21 16 (.bin .gtr (.t 20) (.c (.i .i64 0))),
 Ap 22 16 21]) (.ite (.t 22) .skip (.exit 0))) (.seq (.blk 1 (.reg [Af 26 0 5,Al 27 26,Ag 28 2 6,Au 29 (.bsi 2 1 [(.i .i64 0),(.i .i64 0)] [(0,(.t 28))]),Au 30 (.app 2 16 (.t 27) (.t 29)),Af 31 0 5,As 1 31 30])) (.seq (.seq (.reg [Ag 32 2 6]) (.reg [Au 6 (.alloc [(.i .i64 0),(.i .i64 0)]),As 2 6 32])) (.reg [Am 23 0,Ag 24 2 6,Au 25 (.call L07 [.t 23,.t 24]),As 2 6 25]))))))) (.seq (.reg [Ag 33 1 5,As 1 4 33]) .ret))))
def L06.r:List Rr:=[.cell 4 (some 1)]
abbrev L06.n:Nat:=34
def L04.c (L0m L03 slices_SortFunc_api_Pt_api_Pt L05 L06:FuncId):C :=(.seq (.reg [Az 2,Ac 3 0]) (.seq (.seq (.reg [Am 15 0,An 16 0 15,Ak .gtr 17 16 8192]) (.ite (.t 17) (.seq (.reg [Az 2,Ac 3 2]) .ret) .skip)) (.seq (.seq (.reg [Am 18 0,An 19 0 18,Ac 20 0]) (.blk 0 (.loop (.seq (.reg [Aj .lss 21 20 19]) (.seq (.ite (.t 21) .skip (.exit 0)) (.seq (.blk 1 (.seq (.reg [Ai 22 4 18 20,Ag 23 4 22,Au 5 (.alloc [(.i .i64 0),(.i .i64 0),(.i .i64 0),(.i .i64 0)]),As 4 5 23]) (.seq (.reg [Af 24 0 5,Ag 25 2 24,Au 26 (.call L0m [.t 25]),Au 27 (.un .not (.t 26)),Am 28 27,Aw 29 28 (.fa 2 (.t 5)),Aw 30 28 (.ld (some 2) (.t 29)),
 Aw 31 28 (.call L0m [.t 30]),Aw 32 28 (.un .not (.t 31)),Ao 33 28 32]) (.ite (.t 33) (.seq (.reg [Az 2,Ac 3 8]) .ret) .skip)))) (.reg [Ad 34 20 1,Am 20 34]))))))) (.seq (.seq (.reg [Am 35 0,Au 36 (.call L03 [.t 35]),Au 37 (.un .not (.t 36))]) (.ite (.t 37) (.seq (.reg [Az 2,Ac 3 12]) .ret) .skip)) (.seq (.reg [Au 38 (.mkm none),Am 6 38]) (.seq (.reg [Az 7]) (.seq (.seq (.reg [Am 39 0,An 40 0 39,Ac 41 0]) (.blk 2 (.loop (.seq (.reg [Aj .lss 42 41 40]) (.seq (.ite (.t 42) .skip (.exit 2)) (.seq (.blk 3 (.seq (.reg [Ai 43 4 39 41,Ag 44 4 43,Au 9 (.alloc [(.i .i64 0),(.i .i64 0),(.i .i64 0),(.i .i64 0)]),
 As 4 9 44]) (.seq (.seq (.reg [Af 45 0 9,Ag 46 2 45,Af 47 2 9,Ag 48 2 47,Au 49 (.eqa [1,1] false (.t 46) (.t 48))]) (.ite (.t 49) (.exit 3) .skip)) (.seq (.seq (.reg [Am 50 6,Af 51 0 9,Ag 52 2 51,Au 53 (.lk [1,1] .nil false (.t 50) (.t 52)),An 54 0 53,Ak .eql 55 54 0]) (.ite (.t 55) (.reg [Am 56 7,Af 57 0 9,Ag 58 2 57,Au 59 (.bsi 2 1 [(.i .i64 0),(.i .i64 0)] [(0,(.t 58))]),Au 60 (.app 2 16 (.t 56) (.t 59)),Am 7 60]) .skip)) (.reg [Am 61 6,Af 62 0 9,Ag 63 2 62,Af 65 2 9,Ag 66 2 65,Au 67 (.bsi 2 1 [(.i .i64 0),(.i .i64 0)] [(0,(.t 66))]),Au 68 (.ment [1,1] .nil (.t 61) (.t 63)),Ax1 64 0 68,Au 69 (.app 2 16 (.t 64) (.t 67)),
 Ax1 70 1 68,⟨none,none,.est (.t 61) (.t 70) (.t 69)⟩]))))) (.reg [Ad 71 41 1,Am 41 71]))))))) (.seq (.reg [Am 72 7,Au 73 (.call slices_SortFunc_api_Pt_api_Pt [.t 72,(.c (.f L05 []))])]) (.seq (.seq (.reg [Am 74 7,An 75 0 74,Ac 76 0]) (.blk 4 (.loop (.seq (.reg [Aj .lss 77 76 75]) (.seq (.ite (.t 77) .skip (.exit 4)) (.seq (.blk 5 (.seq (.reg [Ai 78 2 74 76,Ag 79 2 78,Au 11 (.alloc [(.i .i64 0),(.i .i64 0)]),As 2 11 79]) (.reg [Am 80 6,Ag 81 2 11,Au 82 (.lk [1,1] .nil false (.t 80) (.t 81)),Au 83 (.call slices_SortFunc_api_Pt_api_Pt [.t 82,(.c (.f L05 []))])]))) (.reg [Ad 84 76 1,Am 76 84])))))))
 (.seq (.reg [Az 12]) (.seq (.seq (.reg [Am 85 7,An 86 0 85,Ac 87 0]) (.blk 6 (.loop (.seq (.reg [Aj .lss 88 87 86]) (.seq (.ite (.t 88) .skip (.exit 6)) (.seq (.blk 7 (.seq (.reg [Ai 89 2 85 87,Ag 90 2 89,Au 14 (.alloc [(.i .i64 0),(.i .i64 0)]),As 2 14 90]) (.blk 8 (.loop (.seq (.seq (.reg [Am 91 6,Ag 92 2 14,Au 93 (.lk [1,1] .nil false (.t 91) (.t 92)),An 94 0 93,Ak .gtr 95 94 0]) (.ite (.t 95) .skip (.exit 8))) (.blk 9 (.reg [Am 96 12,Am 97 6,Ag 98 2 14,Au 99 (.call L06 [.t 97,.t 98]),Au 100 (.bso 1 1 [.nil] [(0,(.t 99))]),Au 101 (.app 1 24 (.t 96) (.t 100)),Am 12 101]))))))) (.reg [Ad 102 87 1,
 Am 87 102]))))))) (.seq (.reg [Am 103 12,Am 2 103,Ac 3 0]) .ret))))))))))))
def L04.r:List Rr:=[.tmp 2,.tmp 3]
abbrev L04.n:Nat:=104
def Ih (es:List Eg) (p:P2):Int:=(es.countP (λe=>decide (e.1=p)):Int)-es.countP (λe=>decide (e.2=p))
def Qdf (es:List Eg):Bool:=es.all λe=>decide (Ih es e.1=0) && decide (Ih es e.2=0)
theorem balB_iff {es:List Eg}:Qdf es=true↔Q00 es:=by
 unfold Qdf
 rw[qj]
 constructor
 ·intro h p
  by_cases hp:(∃e∈es,e.1=p)∨∃e∈es,e.2=p
  ·have:Ih es p=0:=by
    rcases hp with⟨e,he,rfl⟩ | ⟨e,he,rfl⟩
    ·have:=h e he;simp only[Bool.and_eq_true,decide_eq_true_eq]at this;exact this.1
    ·have:=h e he;simp only[Bool.and_eq_true,decide_eq_true_eq]at this;exact this.2
   unfold Ih at this;omega
  ·have h1:es.countP (λe=>decide (e.1=p))=0:=List.countP_eq_zero.2 λe he=>by
    simp only[decide_eq_true_eq];exact λhh=>hp (.inl ⟨e,he,hh⟩)
   have h2:es.countP (λe=>decide (e.2=p))=0:=List.countP_eq_zero.2 λe he=>by
    simp only[decide_eq_true_eq];exact λhh=>hp (.inr ⟨e,he,hh⟩)
   rw[h1,h2]
 ·intro h e he
  have h1:=h e.1
  have h2:=h e.2
  simp only[Bool.and_eq_true,decide_eq_true_eq]
  unfold Ih
  omega
def Qsl (P:Program) (f:FuncId):Prop:=∀l:List Sg4,l.length<=4096->CallIs P f [Yd l] (.b (Qdf (egs l)))
theorem Q37 (l:List Sg4):(egs l).length=l.length:=by simp[egs]
theorem Ql1 (es:List Eg) (e:Eg) (p:P2):Ih (es++[e]) p=Ih es p+(if e.1=p then 1 else 0)-(if e.2=p then 1 else 0):=by
 unfold Ih
 rw[List.countP_append,List.countP_append,List.countP_singleton,List.countP_singleton]
 by_cases h1:e.1=p<;>by_cases h2:e.2=p<;>simp[h1,h2]<;>omega
theorem Qi0 (es:List Eg) (p:P2):-(es.length:Int)<=Ih es p/\Ih es p<=es.length:=by
 unfold Ih
 have h1:=List.countP_le_length (p:=λe:Eg=>decide (e.1=p)) (l:=es)
 have h2:=List.countP_le_length (p:=λe:Eg=>decide (e.2=p)) (l:=es)
 omega
theorem p2_iff {a b:P2}:a=b↔a.x=b.x/\a.y=b.y:=by cases a;cases b;simp
theorem Qba (l:List Sg4) {k:Nat} {s:Sg4} (h:l[k]?=some s):egs (l.take (k+1))=egs (l.take k)++[s.eg]:=by
 unfold egs;rw[List.take_add_one,h];simp
def Qei (l:List Sg4) (i:Nat):Sg4:=(l[i]?).getD Sg4.init
section
variable {α β:Type}
def HeldR (sz:Nat) (hd:β->List V) (en:α->List V) (b:Nat) (hx:List O) (ls:List (β × List α)) (cells:List (List V)):Prop :=
 cells.length=ls.length/\∀(i:Nat) (c:List V) (l:β × List α),cells[i]?=some c->ls[i]?=some l->∃j g,c=hd l.1++[.own (b+j) g 0 l.2.length]/\hx[j]?=some (.arr g sz (l.2.map en))
structure CellsD (hd:β->List V) (en:α->List V):Prop where
 h1:∀b h,(hd b).mapM (E6 h)=some (hd b)
 h2:∀b,∀x∈hd b,x.isD=true
 e1:∀a,∀x∈en a,x.isD=true
variable {sz:Nat} {hd:β->List V} {en:α->List V}
theorem HeldR.nil (b:Nat):HeldR sz hd en b [] [] []:=⟨rfl,by simp⟩
theorem HeldR.app {b:Nat} {hx:List O} {ls:List (β × List α)} {cells:List (List V)} (h:HeldR sz hd en b hx ls cells) (l:List O):HeldR sz hd en b (hx++l) ls cells :=
 ⟨h.1,λi c x h1 h2=>by obtain⟨j,g,h3,h4⟩:=h.2 i c x h1 h2;exact⟨j,g,h3,by rw[qd (q8.1 h4).1];exact h4⟩⟩
theorem HeldR.snoc {b:Nat} {hx:List O} {ls:List (β × List α)} {cells:List (List V)} (h:HeldR sz hd en b hx ls cells) {j g:Nat} {l:β × List α} (hj:hx[j]?=some (.arr g sz (l.2.map en))):HeldR sz hd en b hx (ls++[l]) (cells++[hd l.1++[.own (b+j) g 0 l.2.length]]):=by
 refine⟨by simp[h.1],λi c x h1 h2=>?_⟩
 by_cases hi:i<ls.length
 ·rw[qd (by rw[h.1];exact hi)]at h1
  rw[qd hi]at h2
  exact h.2 i c x h1 h2
 ·rw[qf (by rw[h.1];omega)]at h1
  rw[qf (by omega)]at h2
  have hi0:i-ls.length=0:=by
   have:=(q8.1 h2).1
   simp at this;omega
  rw[h.1,hi0]at h1
  rw[hi0]at h2
  simp at h1 h2
  subst h1;subst h2
  exact⟨j,g,rfl,hj⟩
theorem HeldR.cl (D:CellsD hd en) {b:Nat} {hx:List O} {ls:List (β × List α)} {cells:List (List V)} (h:HeldR sz hd en b hx ls cells) {n:Nat} (hn:b+hx.length<=n):∀el∈cells,∀x∈el,x.cl n=true:=by
 intro el hel x hx'
 obtain⟨i,hi⟩:=qq hel
 have hlt:=(q8.1 hi).1
 obtain⟨j,g,rfl,h4⟩:=h.2 i el _ hi (q9 (by rw[<- h.1];exact hlt))
 have:=(q8.1 h4).1
 rcases qg.1 hx' with hx' | hx'
 ·exact Kz n (D.h2 _ x hx')
 ·simp at hx';subst hx'
  simp[V.cl,V.cl1,V.cl0];omega
theorem Qhf (D:CellsD hd en) (l:List α):∀el∈l.map en,∀x∈el,x.isD=true:=by
 intro el hel x hx
 obtain⟨a,_,rfl⟩:=qo.1 hel
 exact D.e1 a x hx
theorem Qf6 (D:CellsD hd en) (l:List α) (n:Nat):∀el∈l.map en,∀x∈el,x.cl n=true:=λel hel x hx=>Kz n (Qhf D l el hel x hx)
def Qn2 (sz:Nat) (hd:β->List V) (en:α->List V) (l:β × List α):List V:=hd l.1++[.l sz (l.2.map en)]
theorem HeldR.frz (D:CellsD hd en) {b:Nat} {base hx:List O} {ls:List (β × List α)} {cells:List (List V)} (h:HeldR sz hd en b hx ls cells) (hb:base.length=b):cells.mapM (λel=>el.mapM (E6 (base++hx)))=some (ls.map (Qn2 sz hd en)):=by
 induction cells generalizing ls with
 | nil =>
   have:=h.1
   simp at this
   obtain rfl:=List.length_eq_zero_iff.1 this.symm
   rfl
 | cons c cells ih =>
   have hl:=h.1
   cases ls with
   | nil=>simp at hl
   | cons l ls =>
     have h0:=h.2 0 c l rfl rfl
     obtain⟨j,g,rfl,hj⟩:=h0
     have ht:HeldR sz hd en b hx ls cells:=⟨by simpa using hl,λi c x h1 h2=>h.2 (i+1) c x (by simpa using h1) (by simpa using h2)⟩
     have hg:(base++hx)[b+j]?=some (.arr g sz (l.2.map en)):=by rw[<- hb,Qg];exact hj
     have ha:(l.2.map en).all (λx=>x.all V.isD)=true:=by
      rw[qj]
      exact λel hel=>qj.2 (Qhf D l.2 el hel)
     have hlen:(l.2.map en).length=l.2.length:=by simp
     have hfr:E6 (base++hx) (.own (b+j) g 0 l.2.length)=some (.l sz (l.2.map en)):=by
      have ht2:List.take l.2.length (l.2.map en)=l.2.map en:=qe (by omega)
      simp only[E6,X5,hg]
      rw[List.drop_zero,ht2,if_pos ⟨trivial,by omega,ha⟩]
     have hrow:(hd l.1++[V.own (b+j) g 0 l.2.length]).mapM (E6 (base++hx))=some (Qn2 sz hd en l):=by
      rw[List.mapM_append,D.h1]
      simp[List.mapM_cons,hfr,Qn2]
     rw[List.mapM_cons,hrow,ih ht]
     rfl
theorem Qp7 (D:CellsD hd en) {b rz:Nat} {base hx:List O} {ls:List (β × List α)} {cells:List (List V)} (h:HeldR sz hd en b hx ls cells) (hb:base.length=b) :
  (if ls.length<=cells.length then Option.map (V.l rz) (List.mapM (λel=>List.mapM (E6 (base++hx)) el) (List.take ls.length cells)) else none)=some (.l rz (ls.map (Qn2 sz hd en))):=by
 have h1:=h.frz D hb
 have ht:List.take ls.length cells=cells:=qe (by rw[h.1];exact Nat.le_refl _)
 simp only[ht,h1,h.1,Nat.le_refl,if_true,Option.map_some]
end
theorem Wj {l:List Sg4} {i:Nat} (h:i<l.length):l[i]?=some (Qei l i):=by unfold Qei;rw[q9 h];rfl
theorem Qna:CellsD (λ_:Unit=>([]:List V)) P2.cs:=⟨λ_ _=>rfl,by simp,λa x hx=>by simp[P2.cs]at hx;rcases hx with rfl | rfl<;>rfl⟩
abbrev Qs0 (b:Nat) (hx:List O) (ps:List (List P2)) (cells:List (List V)):Prop:=HeldR 2 (λ_:Unit=>([]:List V)) P2.cs b hx (ps.map λp=>((),p)) cells
def Qgu (P:Program) (f:FuncId):Prop:=∀l:List Sg4,Qi3 l ->
 (¬ Q00 (egs l)->CallIs P f [Yd l] (.t [Qw [],.i .i64 12])) /\
 (Q00 (egs l)->PureC P f [Yd l] λr=>∃ps:List (List P2),(ps.flatMap Z9).Perm (neE (egs l))/\ps.length<=l.length/\r=.t [Qw ps,.i .i64 0])
def Qgd (P:Program) (f:FuncId):Prop:=∀(m:Mesh) (z k:Int),CallIs P f [m.enc,.i .i64 z,.i .i64 k] (.t [rgV (Zd m z k).1,.i .i64 (Zd m z k).2])
theorem Qf1 (es:List Eg):neE es=es.filter λe=>decide (e.1≠e.2):=by
 unfold neE
 congr 1
theorem Qbq {l:List Sg4} (hl:Qi3 l) {ps:List (List P2)} (h1:(ps.flatMap Z9).Perm (neE (egs l))) (h2:ps.length<=l.length):PolyOk ps/\∀k,Uw (ps.flatMap Z9) k=Uw (egs l) k:=by
 have hsub:∀e∈neE (egs l),e∈egs l:=λe he=>by
  rw[Qf1]at he
  exact(qu.1 he).1
 refine⟨⟨by have:=hl.1;omega,?_,λe he=>hl.2 e (hsub e (h1.mem_iff.1 he))⟩,λk=>?_⟩
 ·rw[h1.length_eq,Qf1]
  refine Nat.le_trans (j8 _ _) ?_
  simp[egs]
  exact hl.1
 ·rw[Qjh h1,Qf1,rasR_ne]
section
variable {P:Program} (hm:P.follows .mixedOrders=true)
include hm
theorem Q3n {f fe fs fc fr:FuncId} (hf:Q9 P f (L24.c fe fs fc fr) L24.r L24.n) (he:Qdr P fe) (hs:SecC P fs) (hc:Qgu P fc) (hr:Qak P fr):Qgd P f:=by
 intro m z k
 have hec:=he k 32 1024 (by omega)
 have hsc:=hs m z
 have hso:=sec_ok m z
 have hz:Le1 (V.a [V.nil]) (rgV []):=.inr ⟨_,_,rfl,rfl,Le0.nil 2,trivial⟩
 unfold Zd
 cases hev:Z2 k 32 1024 with
 | false =>
   rw[hev]at hec
   rw[if_pos rfl]
   refine CallIs.res (r:=.t [.a [.nil],.i .i64 1]) ?_ (.inr ⟨_,_,rfl,rfl,hz,Le1.refl _,trivial⟩)
   refine PureC.is (Q7 hm hf (qh rfl) ?_) rfl
   unfold L24.c
   simp[go_sem,Mesh.enc,Mesh.cs]
   refine Q4 hec ?_
   simp[go_sem,L24.r]
   done
 | true =>
   rw[hev]at hec
   rw[if_neg (by simp)]
   unfold secL at hsc
   generalize Zv m z=S at *
   obtain⟨l,e⟩:=S
   simp only at hsc hso ⊢
   by_cases h0:e=0
   case neg =>
    rw[if_pos h0]
    refine CallIs.res (r:=.t [.a [.nil],.i .i64 e]) ?_ (.inr ⟨_,_,rfl,rfl,hz,Le1.refl _,trivial⟩)
    refine PureC.is (Q7 hm hf (qh rfl) ?_) rfl
    have hb:(e != 0)=true:=by simpa using h0
    unfold L24.c
    simp[go_sem,Mesh.enc,Mesh.cs]
    refine Q4 hec ?_
    simp[go_sem]
    refine Q4 hsc ?_
    simp[go_sem,h0,hb,L24.r]
    done
   subst h0
   rw[if_neg (by simp)]
   obtain⟨hc1,hc2⟩:=hc l hso
   by_cases hbal:Q00 (egs l)
   case neg =>
    rw[if_neg hbal]
    have hcc:=hc1 hbal
    refine CallIs.res (r:=.t [.a [.nil],.i .i64 12]) ?_ (.inr ⟨_,_,rfl,rfl,hz,Le1.refl _,trivial⟩)
    refine PureC.is (Q7 hm hf (qh rfl) ?_) rfl
    unfold L24.c
    simp[go_sem,Mesh.enc,Mesh.cs]
    refine Q4 hec ?_
    simp[go_sem]
    refine Q4 hsc ?_
    simp[go_sem]
    refine Q4 hcc ?_
    simp[go_sem,L24.r]
    done
   rw[if_pos hbal]
   have hcc:=hc2 hbal
   refine PureC.is (Q7 hm hf (qh rfl) ?_) rfl
   unfold L24.c
   simp[go_sem,Mesh.enc,Mesh.cs]
   refine Q4 hec ?_
   simp[go_sem]
   refine Q4 hsc ?_
   simp[go_sem]
   refine (hcc.lift rfl _).mono ?_
   rintro r h' ⟨⟨ps,hp1,hp2,rfl⟩,rfl⟩
   obtain⟨hpo,hpr⟩:=Qbq hso hp1 hp2
   have hrc:=hr ps k hpo
   unfold Kw at hrc
   rw[if_neg (by rw[hev];simp),hpr]at hrc
   simp[go_sem]
   refine Q4 hrc ?_
   simp[go_sem,rgV,V.cells,V.okA,L24.r]
end
def L1d.c (L0e L2a L0j L2r L1e:FuncId):C :=(.seq (.reg [Au 1 (.box (.t 0)),Ac 2 0]) (.seq (.seq (.reg [Ag 5 2 1,Au 6 (.call L0e [.t 5]),Am 3 6]) (.seq (.reg [Am 7 3,Ak .neq 8 7 0]) (.ite (.t 8) (.seq (.reg [Am 9 3,Am 2 9]) .ret) .skip))) (.seq (.seq (.reg [Ag 10 2 1,Au 11 (.call L2a [.t 10]),Au 12 (.un .not (.t 11))]) (.ite (.t 12) (.seq (.reg [Ac 2 12]) .ret) .skip)) (.seq (.seq (.reg [Ag 13 2 1,Au 14 (.call L0j [.t 13]),Au 15 (.un .not (.t 14))]) (.ite (.t 15) (.seq (.reg [Ac 2 13]) .ret) .skip)) (.seq (.seq (.reg [Af 16 1 1,Al 17 16,An 18 0 17,Ac 19 0]) (.blk 0 (.loop (.seq (.reg [Aj .lss 20 19 18])
 (.seq (.ite (.t 20) .skip (.exit 0)) (.seq (.blk 1 (.seq (.reg [Am 21 19,Am 4 21]) (.seq (.reg [Ag 22 2 1,Am 23 4,Au 24 (.call L2r [.t 22,.t 23])]) (.ite (.t 24) (.seq (.reg [Ac 2 1]) .ret) .skip)))) (.reg [Ad 25 19 1,Am 19 25]))))))) (.seq (.seq (.reg [Ag 26 2 1,Au 27 (.call L1e [.t 26])]) (.ite (.t 27) (.seq (.reg [Ac 2 1]) .ret) .skip)) (.seq (.reg [Ac 2 0]) .ret)))))))
def L1d.r:List Rr:=[.tmp 2]
abbrev L1d.n:Nat:=28
def L1e.c (L2b L0g:FuncId):C :=(.seq (.reg [Au 1 (.box (.t 0)),Ab 2 false]) (.seq (.seq (.reg [Ag 8 2 1,Au 9 (.call L2b [.t 8]),An 10 0 9,Ac 11 0]) (.blk 0 (.loop (.seq (.reg [Aj .lss 12 11 10]) (.seq (.ite (.t 12) .skip (.exit 0)) (.seq (.blk 1 (.seq (.reg [Ai 13 1 9 11,Al 14 13,Am 4 14]) (.seq (.reg [Af 15 0 1,Al 16 15,Au 17 (.build [.nil,.nil] [(0,1,(.t 16))]),Au 5 (.alloc [.nil,.nil]),As 2 5 17]) (.seq (.seq (.reg [Am 18 4,An 19 0 18,Ac 20 0]) (.blk 2 (.loop (.seq (.reg [Aj .lss 21 20 19]) (.seq (.ite (.t 21) .skip (.exit 2)) (.seq (.blk 3 (.seq (.reg [Ai 22 1 18 20,Al 23 22,Am 7 23]) (.drw [
 Af 24 1 5,Al 25 24,Af 26 1 1,Al 27 26,Am 28 7,Ai 29 3 27 28,Ag 30 3 29,Au 31 (.bsi 3 1 [(.i .i64 0),(.i .i64 0),(.i .i64 0)] [(0,(.t 30))]),Au 32 (.app 3 24 (.t 25) (.t 31)),Af 33 1 5,As 1 33 32] []))) (.reg [Ad 34 20 1,Am 20 34]))))))) (.seq (.reg [Ag 35 2 5,Au 36 (.call L0g [.t 35]),Ak .lss 37 36 0]) (.ite (.t 37) (.seq (.reg [Ab 2 true]) .ret) .skip)))))) (.reg [Ad 38 11 1,Am 11 38]))))))) (.seq (.reg [Ab 2 false]) .ret)))
def L1e.r:List Rr:=[.tmp 2]
abbrev L1e.n:Nat:=39
def By (P:Program) (f:FuncId):Prop:=∀v:V3,CallIs P f [v.enc] (.b (v.within 131072))
def Qi8 (P:Program) (f:FuncId):Prop:=∀b c:V3,b.valid=true->c.valid=true->CallIs P f [b.enc,c.enc] (crs b c).enc
def DotVC (P:Program) (f:FuncId):Prop:=∀a b:V3,a.valid=true->b.within 8589934592=true->CallIs P f [a.enc,b.enc] (.i .i64 (Qqh a b))
theorem Xp {v:V3} (h:v.valid=true):v.within 131072=true:=by
 have:=V3.valid_iff.1 h
 simp[V3.within];omega
theorem Qb0 {v:V3} {a b:Int} (hab:a<=b) (h:v.within a=true):v.within b=true:=by
 simp[V3.within]at h ⊢;omega
theorem Qfx {b c:V3} (hb:b.valid=true) (hc:c.valid=true):(crs b c).within 8589934592=true:=by
 have:=crs_b hb hc
 simp[V3.within];omega
section
variable {P:Program} (hm:P.follows .mixedOrders=true)
include hm
theorem Q88 {f fw:FuncId} (hf:Q9 P f (L2p.c fw) L2p.r L2p.n) (hw:Ur P fw):By P f:=by
 intro v
 refine PureC.is (Q7 hm hf (qh rfl) ?_) rfl
 unfold L2p.c
 simp[go_sem,V3.enc,V3.cs]
 refine Q4 ((hw v 131072 (by omega) (by omega)).is rfl) ?_
 simp[go_sem,L2p.r]
theorem Q8a {f fs:FuncId} (hf:Q9 P f (L2k.c fs) L2k.r L2k.n) (hs:By P fs):Qi8 P f:=by
 intro b c hb hc
 refine PureC.is (Q7 hm hf (qh rfl) ?_) rfl
 unfold L2k.c
 have h1:=hs b
 have h2:=hs c
 rw[Xp hb]at h1
 rw[Xp hc]at h2
 obtain⟨b1,b2,b3,b4,b5,b6⟩:=V3.valid_iff.1 hb
 obtain⟨c1,c2,c3,c4,c5,c6⟩:=V3.valid_iff.1 hc
 have m1:=Wb b3 b4 c5 c6
 have m2:=Wb b5 b6 c3 c4
 have m3:=Wb b5 b6 c1 c2
 have m4:=Wb b1 b2 c5 c6
 have m5:=Wb b1 b2 c3 c4
 have m6:=Wb b3 b4 c1 c2
 have hcr:crs b c=⟨b.y*c.z-b.z*c.y,b.z*c.x-b.x*c.z,b.x*c.y-b.y*c.x⟩:=rfl
 rw[hcr]
 simp[go_sem,V3.enc,V3.cs]at h1 h2 ⊢
 refine Q4 h1 ?_
 simp[go_sem]
 refine Q4 h2 ?_
 simp (disch:=omega) [go_sem,Q0,L2k.r]
theorem Qdy {f fs fw:FuncId} (hf:Q9 P f (L2m.c fs fw) L2m.r L2m.n) (hs:By P fs) (hw:Ur P fw):DotVC P f:=by
 intro a b ha hb
 refine PureC.is (Q7 hm hf (qh rfl) ?_) rfl
 unfold L2m.c
 have h1:=hs a
 have h2:=(hw b 1099511627776 (by omega) (by omega)).is rfl
 rw[Xp ha]at h1
 rw[Qb0 (by omega) hb]at h2
 obtain⟨b1,b2,b3,b4,b5,b6⟩:=V3.valid_iff.1 ha
 simp only[V3.within,Bool.and_eq_true,decide_eq_true_eq]at hb
 obtain⟨⟨⟨⟨⟨c1,c2⟩,c3⟩,c4⟩,c5⟩,c6⟩:=hb
 have m1:=Qf3 b1 b2 c1 c2
 have m2:=Qf3 b3 b4 c3 c4
 have m3:=Qf3 b5 b6 c5 c6
 have hd:Qqh a b=a.x*b.x+a.y*b.y+a.z*b.z:=rfl
 rw[hd]
 simp[go_sem,V3.enc,V3.cs]at h1 h2 ⊢
 refine Q4 h1 ?_
 simp[go_sem]
 refine Q4 h2 ?_
 simp (disch:=omega) [go_sem,Q0,L2m.r]
theorem Qdz {f fs fc fd:FuncId} (hf:Q9 P f (L2l.c fs fc fd) L2l.r L2l.n) (hs:By P fs) (hc:Qi8 P fc) (hd:DotVC P fd):DetC P f:=by
 intro x y z hx hy hz
 refine PureC.is (Q7 hm hf (qh rfl) ?_) rfl
 unfold L2l.c
 have h1:=hs y
 have h2:=hs z
 rw[Xp hy]at h1
 rw[Xp hz]at h2
 simp[go_sem,V3.enc,V3.cs]at h1 h2 ⊢
 refine Q4 h1 ?_
 simp[go_sem]
 refine Q4 h2 ?_
 simp[go_sem]
 refine Ql (hc y z hy hz) ?_
 simp[go_sem]
 refine Ql (hd x (crs y z) hx (Qfx hy hz)) ?_
 simp[go_sem,L2l.r,Qd4]
theorem Q2u {f fc fd:FuncId} (hf:Q9 P f (L0g.c fc fd) L0g.r L0g.n) (hc:K1 P fc) (hd:DetC P fd):VolC P f:=by
 intro m
 refine PureC.is (Q7 hm hf (qh rfl) ?_) rfl
 unfold L0g.c
 have hv:m.vol6=if m.check=0 then Xd m.verts m.tris else 0:=rfl
 by_cases hz:m.check=0
 case neg =>
  rw[hv,if_neg hz]
  simp[go_sem,Mesh.enc,Mesh.cs]
  refine Q4 (hc m) ?_
  simp[go_sem,hz,L0g.r]
 rw[hv,if_pos hz]
 obtain⟨z1,z2,z3,z4⟩:=Mesh.check_zero.1 hz
 simp[go_sem,Mesh.enc,Mesh.cs]
 refine Q4 (hc m) ?_
 simp[go_sem,hz,vsV,tsV]
 refine Qi (α:=Nat) (λk=>k<=m.tris.length)
  (λk=>⟨[(1,.p 0 1 0 0),(3,.i .i64 (Xd m.verts (m.tris.take k))),(10,tsV m.tris),(11,.i .i64 m.tris.length),(12,.i .i64 k)],[.arr 1 2 [m.cs]]⟩)
  (λk=>m.tris.length-k) 0 (Nat.zero_le _) ?_ ?_
 ·simp[go_sem,Mesh.cs,vsV,tsV,Im]
 ·intro k hk
  by_cases hkl:k=m.tris.length
  ·subst hkl
   rw[qi]
   simp[go_sem,Mesh.cs,vsV,tsV,L0g.r]
  ·have hlt:k<m.tris.length:=by omega
   have hp:m.tris[k]?=some m.tris[k]:=q9 hlt
   generalize m.tris[k]=t at hp
   obtain⟨_,hp'⟩:=q8.1 hp
   have hok:=Q3h z4 hp
   obtain⟨a1,a2,b1,b2,c1,c2⟩:=T3.ok_iff.1 hok
   have ga:=Q2z a1 a2
   have gb:=Q2z b1 b2
   have gc:=Q2z c1 c2
   have va:=Jd z3 a1 a2
   have vb:=Jd z3 b1 b2
   have vc:=Jd z3 c1 c2
   have hb1:=Qm0 z3 (ts:=m.tris.take k) (by
    simp only[Wi,qj]at z4 ⊢
    exact λx hx=>z4 x (jl hx))
   have hb2:=Qlz z3 hok
   have hln:((m.tris.take k).length:Int)<=4096:=by rw[qv];omega
   have hs:Xd m.verts (m.tris.take (k+1))=Xd m.verts (m.tris.take k)+Qb3 m.verts t:=by
    rw[List.take_add_one,hp,Qm1,Option.toList_some,U9,Im];omega
   have hvt:Qb3 m.verts t=Qd4 (vAt m.verts t.a) (vAt m.verts t.b) (vAt m.verts t.c):=rfl
   have hdd:=hd _ _ _ va vb vc
   rw[<- hvt]at hdd
   clear hvt
   generalize vAt m.verts t.a=A at *
   generalize vAt m.verts t.b=B at *
   generalize vAt m.verts t.c=C at *
   generalize Xd m.verts (m.tris.take k)=S at *
   generalize Qb3 m.verts t=T at *
   obtain⟨ia,ga'⟩:=q8.1 ga
   obtain⟨ib,gb'⟩:=q8.1 gb
   obtain⟨ic,gc'⟩:=q8.1 gc
   simp[go_sem,Mesh.cs,vsV,tsV,hlt,hp,hp',tcs,a1,b1,c1,ga,gb,gc,ia,ib,ic,ga',gb',gc',vcs]
   simp[go_sem,V3.enc,vcs]at hdd
   refine Ql hdd ?_
   simp (disch:=omega) [go_sem,Q0]
   refine⟨k+1,by omega,by omega,?_⟩
   exact⟨hs.symm,by omega⟩
end
theorem Qc4 {ts:List T3} {sh:List Int} {j:Nat} {v:Int} (h:sh[j]?=some v):Zm ts (sh.take (j+1))=Zm ts (sh.take j)++[tAt ts v.toNat]:=by
 unfold Zm;rw[Qc h,qw];rfl
theorem Q48 (ts:List T3) (sh:List Int):(Zm ts sh).length=sh.length:=by simp[Zm]
end Go.Abs
