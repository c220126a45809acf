/- Part of the library on which the proof stands: an abstract machine, its values and its soundness against the model; or what functions of the program do to such values. -/
import Derived.Test.YtnaehggpjfdenaaGreatGoSkC
import Derived.Test.YtnaehggpjfdenaaGreatGoShp
import Derived.Test.YtnaehggpjfdenaaGreatGoMap
import Derived.Test.YtnaehggpjfdenaaGreatGoMapG
import Derived.Test.YtnaehggpjfdenaaGreatGoRw
set_option linter.unusedVariables false
set_option linter.unusedSimpArgs false
set_option maxHeartbeats 8000000
set_option maxRecDepth 20000
namespace Go.Abs
def Jy (l:List (List Rw)):V:=.l 1 (l.map λg=>[rwL g])
def Q4g (P:Program) (f:FuncId):Prop:=∀a b:List Rw,RgV a->RgV b->RgB a->RgB b->CallIs P f [rgV a,rgV b] (.b (decide (a=b)))
def Qf4 (P:Program) (f:FuncId):Prop:=∀a b:List (List Rw),W2 a->W2 b->a.length<=1000->b.length<=1000->CallIs P f [Jy a,Jy b] (.b (decide (a=b)))
section
variable {P:Program} (hm:P.follows .mixedOrders=true)
include hm
theorem Q4s {f fm:FuncId} (hf:Q9 P f (L26.c fm) L26.r L26.n) (hmm:Qpy P fm):Q4m P f:=by
 intro l hl
 obtain⟨hcb,hmc⟩:=hmm
 refine PureC.is (Q8 hm hf (qj rfl) ?_) rfl
 unfold L26.c
 cases l with
 | nil =>
   simp[go_sem,vsV,bLo,bHi,V3.enc,V3.cs,L26.r]
 | cons v0 vs =>
   generalize hvs:v0::vs=l at hl ⊢
   have hll:0<l.length:=by rw[<- hvs];simp
   have hne:l≠[]:=by rw[<- hvs];simp
   have hq0:l[0]?=some v0:=by rw[<- hvs];rfl
   have eLo:bLo l=Q5w v0 l:=by rw[<- hvs];rfl
   have eHi:bHi l=Q0m v0 l:=by rw[<- hvs];rfl
   obtain⟨_,hq0'⟩:=qa.1 hq0
   clear hvs
   have hlf:((l.length:Int) == 0)=false:=by simp;omega
   rw[eLo,eHi]
   simp (disch:=omega) [go_sem,vsV,hll,hne,hlf,hq0,hq0',V3.cs,show ¬ l.length=0 by omega]
   obtain⟨A,hA⟩:∃A:Nat->V3,∀i,A i=Q5w v0 (l.take i):=⟨_,λ_=>rfl⟩
   obtain⟨B,hB⟩:∃B:Nat->V3,∀i,B i=Q0m v0 (l.take i):=⟨_,λ_=>rfl⟩
   have hA0:A 0=v0:=by rw[hA];rfl
   have hB0:B 0=v0:=by rw[hB];rfl
   have hAn:A l.length=Q5w v0 l:=by rw[hA,qk]
   have hBn:B l.length=Q0m v0 l:=by rw[hB,qk]
   refine Qi (α:=Nat) (λi=>i<=l.length)
    (λi=>⟨[(2,.p 0 1 0 0),(3,.p 1 1 0 0),(5,.p 2 1 0 0),(6,.p 3 1 0 0),(7,.f fm []),(21,vsV l),(22,.i .i64 l.length),(23,.i .i64 i)],[.arr 1 3 [(⟨0,0,0⟩:V3).cs],.arr 1 3 [(⟨0,0,0⟩:V3).cs],.arr 1 3 [(A i).cs],.arr 1 3 [(B i).cs]]⟩)
    (λi=>l.length-i) 0 (Nat.zero_le _) ?_ ?_
   ·simp[go_sem,vsV,V3.cs,hA0,hB0]
   intro i hi
   by_cases hil:i=l.length
   ·subst hil
    rw[hAn,hBn]
    simp[go_sem,vsV,V3.cs,V3.enc,L26.r]
   have hlt:i<l.length:=by omega
   have hq:l[i]?=some l[i]:=qb hlt
   have hAs:A (i+1)=⟨min (A i).x (l[i]).x,min (A i).y (l[i]).y,min (A i).z (l[i]).z⟩:=by rw[hA,hA,Qc hq,Qjj]
   have hBs:B (i+1)=⟨max (B i).x (l[i]).x,max (B i).y (l[i]).y,max (B i).z (l[i]).z⟩:=by rw[hB,hB,Qc hq,Qjk]
   generalize l[i]=v at *
   obtain⟨_,hq'⟩:=qa.1 hq
   have c1:=hmc (A i).x (B i).x v.x
   have c2:=hmc (A i).y (B i).y v.y
   have c3:=hmc (A i).z (B i).z v.z
   simp (disch:=omega) [go_sem,vsV,hlt,hq,hq',V3.cs,Q3]
   refine⟨hcb,Q5 c1 ?_⟩
   simp (disch:=omega) [go_sem,vsV,V3.cs,Q3]
   refine⟨hcb,Q5 c2 ?_⟩
   simp (disch:=omega) [go_sem,vsV,V3.cs,Q3]
   refine⟨hcb,Q5 c3 ?_⟩
   simp (disch:=omega) [go_sem,vsV,V3.cs,Q3]
   exact⟨i+1,by omega,by omega,by omega,by rw[hAs];exact⟨rfl,rfl,rfl⟩,by rw[hBs];exact⟨rfl,rfl,rfl⟩⟩
theorem Qb5 {f fc fb:FuncId} (hf:Q9 P f (L0b.c fc fb) L0b.r L0b.n) (hc:Js P fc) (hb:Q4m P fb):Qpz P f:=by
 intro m hm0
 have hcc:=hc m
 rw[hm0]at hcc
 have hl:=(Mesh.check_zero.1 hm0).1
 have hbc:=hb m.verts (by omega)
 refine PureC.is (Q8 hm hf (qj rfl) ?_) rfl
 unfold L0b.c
 simp[go_sem,Mesh.enc,Mesh.cs]
 refine Q5 hcc ?_
 simp[go_sem]
 refine Q5 hbc ?_
 simp[go_sem,V3.enc,V3.cs,L0b.r]
theorem Q55 {f:FuncId} (hf:Q9 P f L0u.c L0u.r L0u.n):Q4g P f:=by
 intro a b ha hb ba bb
 have hal:=ha.len ba
 have hbl:=hb.len bb
 refine PureC.is (Q8 hm hf (qj rfl) ?_) rfl
 unfold L0u.c
 by_cases hlen:a.length=b.length
 case neg =>
  have hne:¬ a=b:=λh=>hlen (by rw[h])
  have hb1:((a.length:Int) == b.length)=false:=by simp;omega
  have hb2:((a.length:Int) != b.length)=true:=by simp;omega
  simp[go_sem,rgV,hb1,hb2,hne,hlen,L0u.r]
 simp[go_sem,rgV,hlen]
 refine Qi (α:=Nat) (λi=>i<=a.length/\a.take i=b.take i)
  (λi=>⟨[(2,.p 0 1 0 0),(3,.p 1 1 0 0),(5,.i .i64 i)],[.arr 1 1 [[rwL a]],.arr 1 1 [[rwL b]]]⟩)
  (λi=>a.length-i) 0 ⟨Nat.zero_le _,rfl⟩ ?_ ?_
 ·simp[go_sem,rwL]
 rintro i ⟨hi,hpre⟩
 by_cases hil:i=a.length
 ·subst hil
  have he:a=b:=by
   rw[qk,hlen,qk]at hpre
   exact hpre
  subst he
  simp[go_sem,rwL,L0u.r]
 have hlt:i<a.length:=by omega
 have hlt2:i<b.length:=by omega
 have hq:a[i]?=some a[i]:=qb hlt
 have hr:b[i]?=some b[i]:=qb hlt2
 have hal2:=(ha.rs _ (qe hq)).len (ba.rnb ha (qe hq))
 generalize a[i]=v at *
 generalize b[i]=w at *
 obtain⟨_,hq'⟩:=qa.1 hq
 obtain⟨_,hr'⟩:=qa.1 hr
 have hdiff:v≠w->¬ a=b:=λhvw he=>by
  rw[he,hr]at hq
  simp at hq
  exact hvw hq.symm
 by_cases hy:v.y=w.y
 case neg =>
  have hne:=hdiff λh=>hy (by rw[h])
  have hb1:(v.y != w.y)=true:=by simpa using hy
  simp (disch:=omega) [go_sem,rwL,hlt,hlt2,hq,hq',hr,hr',Rw.cs,hy,hb1,hne,Q3,L0u.r]
 by_cases hrl:v.rs.length=w.rs.length
 case neg =>
  have hne:=hdiff λh=>hrl (by rw[h])
  have hb1:((v.rs.length:Int) != w.rs.length)=true:=by simp;omega
  simp (disch:=omega) [go_sem,rwL,hlt,hlt2,hq,hq',hr,hr',Rw.cs,Qj,hy,hrl,hb1,hne,Q3,L0u.r]
 simp (disch:=omega) [go_sem,rwL,hlt,hlt2,hq,hq',hr,hr',Rw.cs,Qj,hy,hrl,Q3]
 refine Qi (α:=Nat) (λj=>j<=v.rs.length/\v.rs.take j=w.rs.take j)
  (λj=>⟨[(2,.p 0 1 0 0),(3,.p 1 1 0 0),(5,.i .i64 i),(6,.p 2 1 0 0),(7,.p 3 1 0 0),(8,.i .i64 j)],[.arr 1 1 [[rwL a]],.arr 1 1 [[rwL b]],.arr 1 2 [v.cs],.arr 1 2 [w.cs]]⟩)
  (λj=>v.rs.length-j) 0 ⟨Nat.zero_le _,rfl⟩ ?_ ?_
 ·simp[go_sem,rwL,Rw.cs,Qj,hy]
 rintro j ⟨hj,hpre2⟩
 by_cases hjl:j=v.rs.length
 ·subst hjl
  have he:v=w:=by
   rw[qk,hrl,qk]at hpre2
   cases v;cases w;simp_all
  subst he
  simp (disch:=omega) [go_sem,rwL,Rw.cs,Qj,Q3]
  exact⟨i+1,⟨by omega,by rw[Qc hq,Qc hr,hpre]⟩,by omega,by omega⟩
 have hjt:j<v.rs.length:=by omega
 have hjt2:j<w.rs.length:=by omega
 have hu:v.rs[j]?=some v.rs[j]:=qb hjt
 have hx:w.rs[j]?=some w.rs[j]:=qb hjt2
 have hdiff2:v.rs[j]≠w.rs[j]->¬ a=b:=λhne=>hdiff λh=>by
  subst h
  exact hne rfl
 generalize v.rs[j]=r at *
 generalize w.rs[j]=s at *
 obtain⟨_,hu'⟩:=qa.1 hu
 obtain⟨_,hx'⟩:=qa.1 hx
 by_cases hrs:r=s
 ·subst hrs
  simp (disch:=omega) [go_sem,rwL,Rw.cs,Rn.cs,Qj,hjt,hjt2,hu,hu',hx,hx',Q3]
  exact⟨j+1,⟨by omega,by rw[Qc hu,Qc hx,hpre2]⟩,by omega,by omega⟩
 ·have hne:=hdiff2 hrs
  have hor:¬ r.a=s.a∨¬ r.b=s.b:=by
   by_cases h1:r.a=s.a
   ·right;intro h2;apply hrs;cases r;cases s;simp_all
   ·exact .inl h1
  have hbo:(!r.a == s.a || !r.b == s.b)=true:=by
   rcases hor with h1 | h1<;>simp[h1]
  simp (disch:=omega) [go_sem,rwL,Rw.cs,Rn.cs,Qj,hjt,hjt2,hu,hu',hx,hx',hor,hbo,hne,Q3,L0u.r]
theorem Q54 {f fs:FuncId} (hf:Q9 P f (L0v.c fs) L0v.r L0v.n) (hs:Q4g P fs):Qf4 P f:=by
 intro a b ha hb hal hbl
 refine PureC.is (Q8 hm hf (qj rfl) ?_) rfl
 unfold L0v.c
 by_cases hlen:a.length=b.length
 case neg =>
  have hne:¬ a=b:=λh=>hlen (by rw[h])
  have hb2:((a.length:Int) != b.length)=true:=by simp;omega
  simp[go_sem,Jy,hb2,hne,hlen,L0v.r]
 simp[go_sem,Jy,hlen]
 refine Qi (α:=Nat) (λi=>i<=a.length/\a.take i=b.take i)
  (λi=>⟨[(0,Jy a),(1,Jy b),(5,.i .i64 i)],[]⟩)
  (λi=>a.length-i) 0 ⟨Nat.zero_le _,rfl⟩ ?_ ?_
 ·simp[go_sem,Jy]
 rintro i ⟨hi,hpre⟩
 by_cases hil:i=a.length
 ·subst hil
  have he:a=b:=by
   rw[qk,hlen,qk]at hpre
   exact hpre
  subst he
  simp[go_sem,Jy,L0v.r]
 have hlt:i<a.length:=by omega
 have hlt2:i<b.length:=by omega
 have hq:a[i]?=some a[i]:=qb hlt
 have hr:b[i]?=some b[i]:=qb hlt2
 have va:=ha _ (qe hq)
 have vb:=hb _ (qe hr)
 generalize a[i]=v at *
 generalize b[i]=w at *
 obtain⟨_,hq'⟩:=qa.1 hq
 obtain⟨_,hr'⟩:=qa.1 hr
 have hsc:=hs v w va.1 vb.1 va.2 vb.2
 simp only[rgV]at hsc
 simp (disch:=omega) [go_sem,Jy,rwL,hlt,hlt2,hq,hq',hr,hr',Q3]
 refine Qn hsc ?_
 by_cases he:v=w
 ·subst he
  simp (disch:=omega) [go_sem,Jy,rwL,Q3]
  exact⟨i+1,⟨by omega,by rw[Qc hq,Qc hr,hpre]⟩,by omega,by omega⟩
 ·have hne:¬ a=b:=λh=>by
   rw[h,hr]at hq
   simp at hq
   exact he hq.symm
  simp (disch:=omega) [go_sem,Jy,rwL,he,hne,Q3,L0v.r]
end
def L05.c:C :=(.seq (.reg [Au 2 (.box (.t 0)),Au 3 (.box (.t 1)),Ac 4 0]) (.seq (.blk 0 (.seq (.reg [Af 6 0 2,Al 7 6,Af 8 0 3,Al 9 8,Aj .lss 10 7 9,Am 11 10,Aw 12 11 (.fa 0 (.t 2)),Aw 13 11 (.ld none (.t 12)),Aw 14 11 (.fa 0 (.t 3)),Aw 15 11 (.ld none (.t 14)),Aw 16 11 (.bin .eql (.t 13) (.t 15)),Aw 17 11 (.mv (.t 16)),Av 18 17 (.fa 1 (.t 2)),Av 19 17 (.ld none (.t 18)),Av 20 17 (.fa 1 (.t 3)),Av 21 17 (.ld none (.t 20)),Av 22 17 (.bin .lss (.t 19) (.t 21)),Aw 23 11 (.pick (.t 17) (.t 22) (.c (.b false))),Ao 24 11 23,Am 5 24]) (.ite (.t 5) (.seq (.reg [Ac 4 (-1)]) .ret) (.seq (.reg [Ag 26 2 2,
 Ag 27 2 3,Au 28 (.eqa [1,1] false (.t 26) (.t 27)),Am 25 28]) (.ite (.t 25) (.seq (.reg [Ac 4 0]) .ret) .skip))))) (.seq (.reg [Ac 4 1]) .ret)))
def L05.r:List Rr:=[.tmp 4]
abbrev L05.n:Nat:=29
def L03.c:C :=(.seq (.reg [Ab 2 false]) (.seq (.reg [Au 8 (.mkm none),Am 3 8]) (.seq (.seq (.reg [Am 9 0,An 10 0 9,Ac 11 0]) (.blk 0 (.loop (.seq (.reg [Aj .lss 12 11 10]) (.seq (.ite (.t 12) .skip (.exit 0)) (.seq (.blk 1 (.seq (.reg [Ai 13 4 9 11,Ag 14 4 13,Au 5 (.alloc [(.i .i64 0),(.i .i64 0),(.i .i64 0),(.i .i64 0)]),As 4 5 14]) (.seq (.reg [Am 15 3,Af 16 0 5,Ag 17 2 16,⟨none,none,.eqa [1,1] false (.t 17) (.t 17)⟩,Au 18 (.lk [1,1] (.i .i64 0) false (.t 15) (.t 17)),Ad 19 18 1,Au 20 (.ment [1,1] (.i .i64 0) (.t 15) (.t 17)),Ax1 21 1 20,⟨none,none,.est (.t 15) (.t 21) (.t 19)⟩]) (.reg [Am 22 3,
 Af 23 2 5,Ag 24 2 23,⟨none,none,.eqa [1,1] false (.t 24) (.t 24)⟩,Au 25 (.lk [1,1] (.i .i64 0) false (.t 22) (.t 24)),Ak .sub 26 25 1,Au 27 (.ment [1,1] (.i .i64 0) (.t 22) (.t 24)),Ax1 28 1 27,⟨none,none,.est (.t 22) (.t 28) (.t 26)⟩])))) (.reg [Ad 29 11 1,Am 11 29]))))))) (.seq (.seq (.reg [Am 30 3,Au 31 (.mrng (.t 30))]) (.blk 2 (.loop (.seq (.reg [Au 32 (.mnx (.t 31)),Ax1 33 0 32]) (.seq (.ite (.t 33) .skip (.exit 2)) (.blk 3 (.seq (.reg [Au 34 (.men (.t 31)),Ax1 35 1 34,Am 7 35]) (.seq (.reg [Am 36 7,Ak .neq 37 36 0]) (.ite (.t 37) (.seq (.reg [Ab 2 false]) .ret) .skip))))))))) (.seq (.reg [
 Ab 2 true]) .ret)))))
def L03.r:List Rr:=[.tmp 2]
abbrev L03.n:Nat:=38
def L07.c:C :=(.seq (.reg [Au 3 (.box (.t 1)),Au 4 (.alloc [(.i .i64 0),(.i .i64 0)])]) (.seq (.reg [Am 6 0,Ag 7 2 3,Au 8 (.lk [1,1] .nil false (.t 6) (.t 7)),Am 5 8]) (.seq (.seq (.reg [Am 9 5,An 10 0 9,Ak .eql 11 10 1]) (.ite (.t 11) (.reg [Am 12 0,Ag 13 2 3,⟨none,none,.mdel [1,1] (.t 12) (.t 13)⟩]) (.drw [Am 14 0,Ag 15 2 3,Am 16 5,Au 17 (.slc 2 (.t 16) (some (.c (.i .i64 1))) none),⟨none,none,.mup [1,1] (.t 14) (.t 15) (.t 17)⟩] []))) (.seq (.reg [Am 18 5,Au 19 (.ia 2 (.t 18) (.c (.i .i64 0))),Ag 20 2 19,As 2 4 20]) .ret))))
def L07.r:List Rr:=[.cell 4 (some 2)]
abbrev L07.n:Nat:=21
def L06.c (L07:FuncId):C :=(.seq (.reg [Au 3 (.box (.t 1)),Au 4 (.alloc [.nil])]) (.seq (.reg [Ag 7 2 3,Au 8 (.bso 2 1 [(.i .i64 0),(.i .i64 0)] [(0,(.t 7))]),Au 9 (.build [.nil] [(0,1,(.t 8))]),Au 5 (.alloc [.nil]),As 1 5 9]) (.seq (.seq (.reg [Am 10 0,Ag 11 2 3,Au 12 (.call L07 [.t 10,.t 11]),Au 6 (.alloc [(.i .i64 0),(.i .i64 0)]),As 2 6 12]) (.blk 0 (.loop (.seq (.seq (.reg [Ag 13 2 6,Ag 14 2 3,Au 15 (.eqa [1,1] true (.t 13) (.t 14)),Am 16 15,Av 17 16 (.mv (.t 0)),Av 18 16 (.ld (some 2) (.t 6)),Av 19 16 (.lk [1,1] .nil false (.t 17) (.t 18)),Av 20 16 (.len 0 (.t 19)),Av 21 16 (.bin .gtr (.t 20) (.c (.i .i64 0))),
 Ap 22 16 21]) (.ite (.t 22) .skip (.exit 0))) (.seq (.blk 1 (.reg [Af 26 0 5,Al 27 26,Ag 28 2 6,Au 29 (.bsi 2 1 [(.i .i64 0),(.i .i64 0)] [(0,(.t 28))]),Au 30 (.app 2 16 (.t 27) (.t 29)),Af 31 0 5,As 1 31 30])) (.seq (.seq (.reg [Ag 32 2 6]) (.reg [Au 6 (.alloc [(.i .i64 0),(.i .i64 0)]),As 2 6 32])) (.reg [Am 23 0,Ag 24 2 6,Au 25 (.call L07 [.t 23,.t 24]),As 2 6 25]))))))) (.seq (.reg [Ag 33 1 5,As 1 4 33]) .ret))))
def L06.r:List Rr:=[.cell 4 (some 1)]
abbrev L06.n:Nat:=34
def L04.c (L0k L03 slices_SortFunc_api_Pt_api_Pt L05 L06:FuncId):C :=(.seq (.reg [Az 2,Ac 3 0]) (.seq (.seq (.reg [Am 15 0,An 16 0 15,Ak .gtr 17 16 8192]) (.ite (.t 17) (.seq (.reg [Az 2,Ac 3 2]) .ret) .skip)) (.seq (.seq (.reg [Am 18 0,An 19 0 18,Ac 20 0]) (.blk 0 (.loop (.seq (.reg [Aj .lss 21 20 19]) (.seq (.ite (.t 21) .skip (.exit 0)) (.seq (.blk 1 (.seq (.reg [Ai 22 4 18 20,Ag 23 4 22,Au 5 (.alloc [(.i .i64 0),(.i .i64 0),(.i .i64 0),(.i .i64 0)]),As 4 5 23]) (.seq (.reg [Af 24 0 5,Ag 25 2 24,Au 26 (.call L0k [.t 25]),Au 27 (.un .not (.t 26)),Am 28 27,Aw 29 28 (.fa 2 (.t 5)),Aw 30 28 (.ld (some 2) (.t 29)),
 Aw 31 28 (.call L0k [.t 30]),Aw 32 28 (.un .not (.t 31)),Ao 33 28 32]) (.ite (.t 33) (.seq (.reg [Az 2,Ac 3 8]) .ret) .skip)))) (.reg [Ad 34 20 1,Am 20 34]))))))) (.seq (.seq (.reg [Am 35 0,Au 36 (.call L03 [.t 35]),Au 37 (.un .not (.t 36))]) (.ite (.t 37) (.seq (.reg [Az 2,Ac 3 12]) .ret) .skip)) (.seq (.reg [Au 38 (.mkm none),Am 6 38]) (.seq (.reg [Az 7]) (.seq (.seq (.reg [Am 39 0,An 40 0 39,Ac 41 0]) (.blk 2 (.loop (.seq (.reg [Aj .lss 42 41 40]) (.seq (.ite (.t 42) .skip (.exit 2)) (.seq (.blk 3 (.seq (.reg [Ai 43 4 39 41,Ag 44 4 43,Au 9 (.alloc [(.i .i64 0),(.i .i64 0),(.i .i64 0),(.i .i64 0)]),
 As 4 9 44]) (.seq (.seq (.reg [Af 45 0 9,Ag 46 2 45,Af 47 2 9,Ag 48 2 47,Au 49 (.eqa [1,1] false (.t 46) (.t 48))]) (.ite (.t 49) (.exit 3) .skip)) (.seq (.seq (.reg [Am 50 6,Af 51 0 9,Ag 52 2 51,Au 53 (.lk [1,1] .nil false (.t 50) (.t 52)),An 54 0 53,Ak .eql 55 54 0]) (.ite (.t 55) (.reg [Am 56 7,Af 57 0 9,Ag 58 2 57,Au 59 (.bsi 2 1 [(.i .i64 0),(.i .i64 0)] [(0,(.t 58))]),Au 60 (.app 2 16 (.t 56) (.t 59)),Am 7 60]) .skip)) (.reg [Am 61 6,Af 62 0 9,Ag 63 2 62,Af 65 2 9,Ag 66 2 65,Au 67 (.bsi 2 1 [(.i .i64 0),(.i .i64 0)] [(0,(.t 66))]),Au 68 (.ment [1,1] .nil (.t 61) (.t 63)),Ax1 64 0 68,Au 69 (.app 2 16 (.t 64) (.t 67)),
 Ax1 70 1 68,⟨none,none,.est (.t 61) (.t 70) (.t 69)⟩]))))) (.reg [Ad 71 41 1,Am 41 71]))))))) (.seq (.reg [Am 72 7,Au 73 (.call slices_SortFunc_api_Pt_api_Pt [.t 72,(.c (.f L05 []))])]) (.seq (.seq (.reg [Am 74 7,An 75 0 74,Ac 76 0]) (.blk 4 (.loop (.seq (.reg [Aj .lss 77 76 75]) (.seq (.ite (.t 77) .skip (.exit 4)) (.seq (.blk 5 (.seq (.reg [Ai 78 2 74 76,Ag 79 2 78,Au 11 (.alloc [(.i .i64 0),(.i .i64 0)]),As 2 11 79]) (.reg [Am 80 6,Ag 81 2 11,Au 82 (.lk [1,1] .nil false (.t 80) (.t 81)),Au 83 (.call slices_SortFunc_api_Pt_api_Pt [.t 82,(.c (.f L05 []))])]))) (.reg [Ad 84 76 1,Am 76 84])))))))
 (.seq (.reg [Az 12]) (.seq (.seq (.reg [Am 85 7,An 86 0 85,Ac 87 0]) (.blk 6 (.loop (.seq (.reg [Aj .lss 88 87 86]) (.seq (.ite (.t 88) .skip (.exit 6)) (.seq (.blk 7 (.seq (.reg [Ai 89 2 85 87,Ag 90 2 89,Au 14 (.alloc [(.i .i64 0),(.i .i64 0)]),As 2 14 90]) (.blk 8 (.loop (.seq (.seq (.reg [Am 91 6,Ag 92 2 14,Au 93 (.lk [1,1] .nil false (.t 91) (.t 92)),An 94 0 93,Ak .gtr 95 94 0]) (.ite (.t 95) .skip (.exit 8))) (.blk 9 (.reg [Am 96 12,Am 97 6,Ag 98 2 14,Au 99 (.call L06 [.t 97,.t 98]),Au 100 (.bso 1 1 [.nil] [(0,(.t 99))]),Au 101 (.app 1 24 (.t 96) (.t 100)),Am 12 101]))))))) (.reg [Ad 102 87 1,
 Am 87 102]))))))) (.seq (.reg [Am 103 12,Am 2 103,Ac 3 0]) .ret))))))))))))
def L04.r:List Rr:=[.tmp 2,.tmp 3]
abbrev L04.n:Nat:=104
def Ey (es:List Eg) (p:P2):Int:=(es.countP (λe=>decide (e.1=p)):Int)-es.countP (λe=>decide (e.2=p))
def Qc8 (es:List Eg):Bool:=es.all λe=>decide (Ey es e.1=0) && decide (Ey es e.2=0)
theorem balB_iff {es:List Eg}:Qc8 es=true↔Be es:=by
 unfold Qc8
 rw[ql]
 constructor
 ·intro h p
  by_cases hp:(∃e∈es,e.1=p)∨∃e∈es,e.2=p
  ·have:Ey es p=0:=by
    rcases hp with⟨e,he,rfl⟩ | ⟨e,he,rfl⟩
    ·have:=h e he;simp only[Bool.and_eq_true,decide_eq_true_eq]at this;exact this.1
    ·have:=h e he;simp only[Bool.and_eq_true,decide_eq_true_eq]at this;exact this.2
   unfold Ey at this;omega
  ·have h1:es.countP (λe=>decide (e.1=p))=0:=List.countP_eq_zero.2 λe he=>by
    simp only[decide_eq_true_eq];exact λhh=>hp (.inl ⟨e,he,hh⟩)
   have h2:es.countP (λe=>decide (e.2=p))=0:=List.countP_eq_zero.2 λe he=>by
    simp only[decide_eq_true_eq];exact λhh=>hp (.inr ⟨e,he,hh⟩)
   rw[h1,h2]
 ·intro h e he
  have h1:=h e.1
  have h2:=h e.2
  simp only[Bool.and_eq_true,decide_eq_true_eq]
  unfold Ey
  omega
def Qql (P:Program) (f:FuncId):Prop:=∀l:List Sg4,l.length<=4096->CallIs P f [Y9 l] (.b (Qc8 (egs l)))
theorem Q2g (l:List Sg4):(egs l).length=l.length:=by simp[egs]
theorem Qji (es:List Eg) (e:Eg) (p:P2):Ey (es++[e]) p=Ey es p+(if e.1=p then 1 else 0)-(if e.2=p then 1 else 0):=by
 unfold Ey
 rw[List.countP_append,List.countP_append,List.countP_singleton,List.countP_singleton]
 by_cases h1:e.1=p<;>by_cases h2:e.2=p<;>simp[h1,h2]<;>omega
theorem Qgk (es:List Eg) (p:P2):-(es.length:Int)<=Ey es p/\Ey es p<=es.length:=by
 unfold Ey
 have h1:=List.countP_le_length (p:=λe:Eg=>decide (e.1=p)) (l:=es)
 have h2:=List.countP_le_length (p:=λe:Eg=>decide (e.2=p)) (l:=es)
 omega
theorem p2_iff {a b:P2}:a=b↔a.x=b.x/\a.y=b.y:=by cases a;cases b;simp
theorem Qa5 (l:List Sg4) {k:Nat} {s:Sg4} (h:l[k]?=some s):egs (l.take (k+1))=egs (l.take k)++[s.eg]:=by
 unfold egs;rw[List.take_add_one,h];simp
def Qd8 (l:List Sg4) (i:Nat):Sg4:=(l[i]?).getD Sg4.init
section
variable {α β:Type}
def HeldR (sz:Nat) (hd:β->List V) (en:α->List V) (b:Nat) (hx:List O) (ls:List (β × List α)) (cells:List (List V)):Prop :=
 cells.length=ls.length/\∀(i:Nat) (c:List V) (l:β × List α),cells[i]?=some c->ls[i]?=some l->∃j g,c=hd l.1++[.own (b+j) g 0 l.2.length]/\hx[j]?=some (.arr g sz (l.2.map en))
structure CellsD (hd:β->List V) (en:α->List V):Prop where
 h1:∀b h,(hd b).mapM (Up h)=some (hd b)
 h2:∀b,∀x∈hd b,x.isD=true
 e1:∀a,∀x∈en a,x.isD=true
variable {sz:Nat} {hd:β->List V} {en:α->List V}
theorem HeldR.nil (b:Nat):HeldR sz hd en b [] [] []:=⟨rfl,by simp⟩
theorem HeldR.app {b:Nat} {hx:List O} {ls:List (β × List α)} {cells:List (List V)} (h:HeldR sz hd en b hx ls cells) (l:List O):HeldR sz hd en b (hx++l) ls cells :=
 ⟨h.1,λi c x h1 h2=>by obtain⟨j,g,h3,h4⟩:=h.2 i c x h1 h2;exact⟨j,g,h3,by rw[qf (qa.1 h4).1];exact h4⟩⟩
theorem HeldR.snoc {b:Nat} {hx:List O} {ls:List (β × List α)} {cells:List (List V)} (h:HeldR sz hd en b hx ls cells) {j g:Nat} {l:β × List α} (hj:hx[j]?=some (.arr g sz (l.2.map en))):HeldR sz hd en b hx (ls++[l]) (cells++[hd l.1++[.own (b+j) g 0 l.2.length]]):=by
 refine⟨by simp[h.1],λi c x h1 h2=>?_⟩
 by_cases hi:i<ls.length
 ·rw[qf (by rw[h.1];exact hi)]at h1
  rw[qf hi]at h2
  exact h.2 i c x h1 h2
 ·rw[qh (by rw[h.1];omega)]at h1
  rw[qh (by omega)]at h2
  have hi0:i-ls.length=0:=by
   have:=(qa.1 h2).1
   simp at this;omega
  rw[h.1,hi0]at h1
  rw[hi0]at h2
  simp at h1 h2
  subst h1;subst h2
  exact⟨j,g,rfl,hj⟩
theorem HeldR.cl (D:CellsD hd en) {b:Nat} {hx:List O} {ls:List (β × List α)} {cells:List (List V)} (h:HeldR sz hd en b hx ls cells) {n:Nat} (hn:b+hx.length<=n):∀el∈cells,∀x∈el,x.cl n=true:=by
 intro el hel x hx'
 obtain⟨i,hi⟩:=qt hel
 have hlt:=(qa.1 hi).1
 obtain⟨j,g,rfl,h4⟩:=h.2 i el _ hi (qb (by rw[<- h.1];exact hlt))
 have:=(qa.1 h4).1
 rcases qi.1 hx' with hx' | hx'
 ·exact K1 n (D.h2 _ x hx')
 ·simp at hx';subst hx'
  simp[V.cl,V.cl1,V.cl0];omega
theorem Qg0 (D:CellsD hd en) (l:List α):∀el∈l.map en,∀x∈el,x.isD=true:=by
 intro el hel x hx
 obtain⟨a,_,rfl⟩:=qq.1 hel
 exact D.e1 a x hx
theorem Qdw (D:CellsD hd en) (l:List α) (n:Nat):∀el∈l.map en,∀x∈el,x.cl n=true:=λel hel x hx=>K1 n (Qg0 D l el hel x hx)
def Qli (sz:Nat) (hd:β->List V) (en:α->List V) (l:β × List α):List V:=hd l.1++[.l sz (l.2.map en)]
theorem HeldR.frz (D:CellsD hd en) {b:Nat} {base hx:List O} {ls:List (β × List α)} {cells:List (List V)} (h:HeldR sz hd en b hx ls cells) (hb:base.length=b):cells.mapM (λel=>el.mapM (Up (base++hx)))=some (ls.map (Qli sz hd en)):=by
 induction cells generalizing ls with
 | nil =>
   have:=h.1
   simp at this
   obtain rfl:=List.length_eq_zero_iff.1 this.symm
   rfl
 | cons c cells ih =>
   have hl:=h.1
   cases ls with
   | nil=>simp at hl
   | cons l ls =>
     have h0:=h.2 0 c l rfl rfl
     obtain⟨j,g,rfl,hj⟩:=h0
     have ht:HeldR sz hd en b hx ls cells:=⟨by simpa using hl,λi c x h1 h2=>h.2 (i+1) c x (by simpa using h1) (by simpa using h2)⟩
     have hg:(base++hx)[b+j]?=some (.arr g sz (l.2.map en)):=by rw[<- hb,Qd];exact hj
     have ha:(l.2.map en).all (λx=>x.all V.isD)=true:=by
      rw[ql]
      exact λel hel=>ql.2 (Qg0 D l.2 el hel)
     have hlen:(l.2.map en).length=l.2.length:=by simp
     have hfr:Up (base++hx) (.own (b+j) g 0 l.2.length)=some (.l sz (l.2.map en)):=by
      have ht2:List.take l.2.length (l.2.map en)=l.2.map en:=qg (by omega)
      simp only[Up,Yx,hg]
      rw[List.drop_zero,ht2,if_pos ⟨trivial,by omega,ha⟩]
     have hrow:(hd l.1++[V.own (b+j) g 0 l.2.length]).mapM (Up (base++hx))=some (Qli sz hd en l):=by
      rw[List.mapM_append,D.h1]
      simp[List.mapM_cons,hfr,Qli]
     rw[List.mapM_cons,hrow,ih ht]
     rfl
theorem Qnb (D:CellsD hd en) {b rz:Nat} {base hx:List O} {ls:List (β × List α)} {cells:List (List V)} (h:HeldR sz hd en b hx ls cells) (hb:base.length=b) :
  (if ls.length<=cells.length then Option.map (V.l rz) (List.mapM (λel=>List.mapM (Up (base++hx)) el) (List.take ls.length cells)) else none)=some (.l rz (ls.map (Qli sz hd en))):=by
 have h1:=h.frz D hb
 have ht:List.take ls.length cells=cells:=qg (by rw[h.1];exact Nat.le_refl _)
 simp only[ht,h1,h.1,Nat.le_refl,if_true,Option.map_some]
end
theorem W7 {l:List Sg4} {i:Nat} (h:i<l.length):l[i]?=some (Qd8 l i):=by unfold Qd8;rw[qb h];rfl
theorem Qlq:CellsD (λ_:Unit=>([]:List V)) P2.cs:=⟨λ_ _=>rfl,by simp,λa x hx=>by simp[P2.cs]at hx;rcases hx with rfl | rfl<;>rfl⟩
abbrev Qq0 (b:Nat) (hx:List O) (ps:List (List P2)) (cells:List (List V)):Prop:=HeldR 2 (λ_:Unit=>([]:List V)) P2.cs b hx (ps.map λp=>((),p)) cells
def Qff (P:Program) (f:FuncId):Prop:=∀l:List Sg4,Qgn l ->
 (¬ Be (egs l)->CallIs P f [Y9 l] (.t [Qs [],.i .i64 12])) /\
 (Be (egs l)->PureC P f [Y9 l] λr=>∃ps:List (List P2),(ps.flatMap Z7).Perm (neE (egs l))/\ps.length<=l.length/\r=.t [Qs ps,.i .i64 0])
def Qf0 (P:Program) (f:FuncId):Prop:=∀(m:Mesh) (z k:Int),CallIs P f [m.enc,.i .i64 z,.i .i64 k] (.t [rgV (Zb m z k).1,.i .i64 (Zb m z k).2])
theorem Qdr (es:List Eg):neE es=es.filter λe=>decide (e.1≠e.2):=by
 unfold neE
 congr 1
theorem Qak {l:List Sg4} (hl:Qgn l) {ps:List (List P2)} (h1:(ps.flatMap Z7).Perm (neE (egs l))) (h2:ps.length<=l.length):PolyOk ps/\∀k,Ui (ps.flatMap Z7) k=Ui (egs l) k:=by
 have hsub:∀e∈neE (egs l),e∈egs l:=λe he=>by
  rw[Qdr]at he
  exact(qw.1 he).1
 refine⟨⟨by have:=hl.1;omega,?_,λe he=>hl.2 e (hsub e (h1.mem_iff.1 he))⟩,λk=>?_⟩
 ·rw[h1.length_eq,Qdr]
  refine Nat.le_trans (ja _ _) ?_
  simp[egs]
  exact hl.1
 ·rw[Qi0 h1,Qdr,rasR_ne]
section
variable {P:Program} (hm:P.follows .mixedOrders=true)
include hm
theorem Q2v {f fe fs fc fr:FuncId} (hf:Q9 P f (L1t.c fe fs fc fr) L1t.r L1t.n) (he:Qcj P fe) (hs:SecC P fs) (hc:Qff P fc) (hr:Q9e P fr):Qf0 P f:=by
 intro m z k
 have hec:=he k 32 1024 (by omega)
 have hsc:=hs m z
 have hso:=sec_ok m z
 have hz:Le1 (V.a [V.nil]) (rgV []):=.inr ⟨_,_,rfl,rfl,Le0.nil 2,trivial⟩
 unfold Zb
 cases hev:Zf k 32 1024 with
 | false =>
   rw[hev]at hec
   rw[if_pos rfl]
   refine CallIs.res (r:=.t [.a [.nil],.i .i64 1]) ?_ (.inr ⟨_,_,rfl,rfl,hz,Le1.refl _,trivial⟩)
   refine PureC.is (Q8 hm hf (qj rfl) ?_) rfl
   unfold L1t.c
   simp[go_sem,Mesh.enc,Mesh.cs]
   refine Q5 hec ?_
   simp[go_sem,L1t.r]
   done
 | true =>
   rw[hev]at hec
   rw[if_neg (by simp)]
   unfold secL at hsc
   generalize Zr m z=S at *
   obtain⟨l,e⟩:=S
   simp only at hsc hso ⊢
   by_cases h0:e=0
   case neg =>
    rw[if_pos h0]
    refine CallIs.res (r:=.t [.a [.nil],.i .i64 e]) ?_ (.inr ⟨_,_,rfl,rfl,hz,Le1.refl _,trivial⟩)
    refine PureC.is (Q8 hm hf (qj rfl) ?_) rfl
    have hb:(e != 0)=true:=by simpa using h0
    unfold L1t.c
    simp[go_sem,Mesh.enc,Mesh.cs]
    refine Q5 hec ?_
    simp[go_sem]
    refine Q5 hsc ?_
    simp[go_sem,h0,hb,L1t.r]
    done
   subst h0
   rw[if_neg (by simp)]
   obtain⟨hc1,hc2⟩:=hc l hso
   by_cases hbal:Be (egs l)
   case neg =>
    rw[if_neg hbal]
    have hcc:=hc1 hbal
    refine CallIs.res (r:=.t [.a [.nil],.i .i64 12]) ?_ (.inr ⟨_,_,rfl,rfl,hz,Le1.refl _,trivial⟩)
    refine PureC.is (Q8 hm hf (qj rfl) ?_) rfl
    unfold L1t.c
    simp[go_sem,Mesh.enc,Mesh.cs]
    refine Q5 hec ?_
    simp[go_sem]
    refine Q5 hsc ?_
    simp[go_sem]
    refine Q5 hcc ?_
    simp[go_sem,L1t.r]
    done
   rw[if_pos hbal]
   have hcc:=hc2 hbal
   refine PureC.is (Q8 hm hf (qj rfl) ?_) rfl
   unfold L1t.c
   simp[go_sem,Mesh.enc,Mesh.cs]
   refine Q5 hec ?_
   simp[go_sem]
   refine Q5 hsc ?_
   simp[go_sem]
   refine (hcc.lift rfl _).mono ?_
   rintro r h' ⟨⟨ps,hp1,hp2,rfl⟩,rfl⟩
   obtain⟨hpo,hpr⟩:=Qak hso hp1 hp2
   have hrc:=hr ps k hpo
   unfold Km at hrc
   rw[if_neg (by rw[hev];simp),hpr]at hrc
   simp[go_sem]
   refine Q5 hrc ?_
   simp[go_sem,rgV,V.cells,V.okA,L1t.r]
end
end Go.Abs
