/- Part of the library on which the proof stands: an abstract machine, its values and its soundness against the model; or what functions of the program do to such values. -/
import Derived.Test.YtnaehggpjfdenaaGreatGoSkC
import Derived.Test.YtnaehggpjfdenaaGreatGoShp
import Derived.Test.YtnaehggpjfdenaaGreatGoOri
set_option linter.unusedVariables false
set_option linter.unusedSimpArgs false
set_option maxHeartbeats 8000000
set_option maxRecDepth 20000
namespace Go.Abs
def Kd (l:List (List Rw)):V:=.l 1 (l.map λg=>[rwL g])
def Qcu (P:Program) (f:FuncId):Prop:=∀a b:List Rw,RgV a->RgV b->RgB a->RgB b->CallIs P f [rgV a,rgV b] (.b (decide (a=b)))
def Qip (P:Program) (f:FuncId):Prop:=∀a b:List (List Rw),Wr a->Wr b->a.length<=1000->b.length<=1000->CallIs P f [Kd a,Kd b] (.b (decide (a=b)))
section
variable {P:Program} (hm:P.follows .mixedOrders=true)
include hm
theorem Q7j {f fm:FuncId} (hf:Q9 P f (L30.c fm) L30.r L30.n) (hmm:Que P fm):Q7d P f:=by
 intro l hl
 obtain⟨hcb,hmc⟩:=hmm
 refine PureC.is (Q6 hm hf (qh rfl) ?_) rfl
 unfold L30.c
 cases l with
 | nil =>
   simp[go_sem,vsV,bLo,bHi,V3.enc,V3.cs,L30.r]
 | cons v0 vs =>
   generalize hvs:v0::vs=l at hl ⊢
   have hll:0<l.length:=by rw[<- hvs];simp
   have hne:l≠[]:=by rw[<- hvs];simp
   have hq0:l[0]?=some v0:=by rw[<- hvs];rfl
   have eLo:bLo l=Q8u v0 l:=by rw[<- hvs];rfl
   have eHi:bHi l=Q1z v0 l:=by rw[<- hvs];rfl
   obtain⟨_,hq0'⟩:=q8.1 hq0
   clear hvs
   have hlf:((l.length:Int) == 0)=false:=by simp;omega
   rw[eLo,eHi]
   simp (disch:=omega) [go_sem,vsV,hll,hne,hlf,hq0,hq0',V3.cs,show ¬ l.length=0 by omega]
   obtain⟨A,hA⟩:∃A:Nat->V3,∀i,A i=Q8u v0 (l.take i):=⟨_,λ_=>rfl⟩
   obtain⟨B,hB⟩:∃B:Nat->V3,∀i,B i=Q1z v0 (l.take i):=⟨_,λ_=>rfl⟩
   have hA0:A 0=v0:=by rw[hA];rfl
   have hB0:B 0=v0:=by rw[hB];rfl
   have hAn:A l.length=Q8u v0 l:=by rw[hA,qi]
   have hBn:B l.length=Q1z v0 l:=by rw[hB,qi]
   refine Qc (α:=Nat) (λi=>i<=l.length)
    (λi=>⟨[(2,.p 0 1 0 0),(3,.p 1 1 0 0),(5,.p 2 1 0 0),(6,.p 3 1 0 0),(7,.f fm []),(21,vsV l),(22,.i .i64 l.length),(23,.i .i64 i)],[.arr 1 3 [(⟨0,0,0⟩:V3).cs],.arr 1 3 [(⟨0,0,0⟩:V3).cs],.arr 1 3 [(A i).cs],.arr 1 3 [(B i).cs]]⟩)
    (λi=>l.length-i) 0 (Nat.zero_le _) ?_ ?_
   ·simp[go_sem,vsV,V3.cs,hA0,hB0]
   intro i hi
   by_cases hil:i=l.length
   ·subst hil
    rw[hAn,hBn]
    simp[go_sem,vsV,V3.cs,V3.enc,L30.r]
   have hlt:i<l.length:=by omega
   have hq:l[i]?=some l[i]:=q9 hlt
   have hAs:A (i+1)=⟨min (A i).x (l[i]).x,min (A i).y (l[i]).y,min (A i).z (l[i]).z⟩:=by rw[hA,hA,Qa hq,Qnf]
   have hBs:B (i+1)=⟨max (B i).x (l[i]).x,max (B i).y (l[i]).y,max (B i).z (l[i]).z⟩:=by rw[hB,hB,Qa hq,Qng]
   generalize l[i]=v at *
   obtain⟨_,hq'⟩:=q8.1 hq
   have c1:=hmc (A i).x (B i).x v.x
   have c2:=hmc (A i).y (B i).y v.y
   have c3:=hmc (A i).z (B i).z v.z
   simp (disch:=omega) [go_sem,vsV,hlt,hq,hq',V3.cs,Q0]
   refine⟨hcb,Q4 c1 ?_⟩
   simp (disch:=omega) [go_sem,vsV,V3.cs,Q0]
   refine⟨hcb,Q4 c2 ?_⟩
   simp (disch:=omega) [go_sem,vsV,V3.cs,Q0]
   refine⟨hcb,Q4 c3 ?_⟩
   simp (disch:=omega) [go_sem,vsV,V3.cs,Q0]
   exact⟨i+1,by omega,by omega,by omega,by rw[hAs];exact⟨rfl,rfl,rfl⟩,by rw[hBs];exact⟨rfl,rfl,rfl⟩⟩
theorem Qeo {f fc fb:FuncId} (hf:Q9 P f (L0c.c fc fb) L0c.r L0c.n) (hc:X6 P fc) (hb:Q7d P fb):Quf P f:=by
 intro m hm0
 have hcc:=hc m
 rw[hm0]at hcc
 have hl:=(Mesh.check_zero.1 hm0).1
 have hbc:=hb m.verts (by omega)
 refine PureC.is (Q6 hm hf (qh rfl) ?_) rfl
 unfold L0c.c
 simp[go_sem,Mesh.enc,Mesh.cs]
 refine Q4 hcc ?_
 simp[go_sem]
 refine Q4 hbc ?_
 simp[go_sem,V3.enc,V3.cs,L0c.r]
theorem Q7x {f:FuncId} (hf:Q9 P f L1e.c L1e.r L1e.n):Qcu P f:=by
 intro a b ha hb ba bb
 have hal:=ha.len ba
 have hbl:=hb.len bb
 refine PureC.is (Q6 hm hf (qh rfl) ?_) rfl
 unfold L1e.c
 by_cases hlen:a.length=b.length
 case neg =>
  have hne:¬ a=b:=λh=>hlen (by rw[h])
  have hb1:((a.length:Int) == b.length)=false:=by simp;omega
  have hb2:((a.length:Int) != b.length)=true:=by simp;omega
  simp[go_sem,rgV,hb1,hb2,hne,hlen,L1e.r]
 simp[go_sem,rgV,hlen]
 refine Qc (α:=Nat) (λi=>i<=a.length/\a.take i=b.take i)
  (λi=>⟨[(2,.p 0 1 0 0),(3,.p 1 1 0 0),(5,.i .i64 i)],[.arr 1 1 [[rwL a]],.arr 1 1 [[rwL b]]]⟩)
  (λi=>a.length-i) 0 ⟨Nat.zero_le _,rfl⟩ ?_ ?_
 ·simp[go_sem,rwL]
 rintro i ⟨hi,hpre⟩
 by_cases hil:i=a.length
 ·subst hil
  have he:a=b:=by
   rw[qi,hlen,qi]at hpre
   exact hpre
  subst he
  simp[go_sem,rwL,L1e.r]
 have hlt:i<a.length:=by omega
 have hlt2:i<b.length:=by omega
 have hq:a[i]?=some a[i]:=q9 hlt
 have hr:b[i]?=some b[i]:=q9 hlt2
 have hal2:=(ha.rs _ (qb hq)).len (ba.rnb ha (qb hq))
 generalize a[i]=v at *
 generalize b[i]=w at *
 obtain⟨_,hq'⟩:=q8.1 hq
 obtain⟨_,hr'⟩:=q8.1 hr
 have hdiff:v≠w->¬ a=b:=λhvw he=>by
  rw[he,hr]at hq
  simp at hq
  exact hvw hq.symm
 by_cases hy:v.y=w.y
 case neg =>
  have hne:=hdiff λh=>hy (by rw[h])
  have hb1:(v.y != w.y)=true:=by simpa using hy
  simp (disch:=omega) [go_sem,rwL,hlt,hlt2,hq,hq',hr,hr',Rw.cs,hy,hb1,hne,Q0,L1e.r]
 by_cases hrl:v.rs.length=w.rs.length
 case neg =>
  have hne:=hdiff λh=>hrl (by rw[h])
  have hb1:((v.rs.length:Int) != w.rs.length)=true:=by simp;omega
  simp (disch:=omega) [go_sem,rwL,hlt,hlt2,hq,hq',hr,hr',Rw.cs,Qk,hy,hrl,hb1,hne,Q0,L1e.r]
 simp (disch:=omega) [go_sem,rwL,hlt,hlt2,hq,hq',hr,hr',Rw.cs,Qk,hy,hrl,Q0]
 refine Qc (α:=Nat) (λj=>j<=v.rs.length/\v.rs.take j=w.rs.take j)
  (λj=>⟨[(2,.p 0 1 0 0),(3,.p 1 1 0 0),(5,.i .i64 i),(6,.p 2 1 0 0),(7,.p 3 1 0 0),(8,.i .i64 j)],[.arr 1 1 [[rwL a]],.arr 1 1 [[rwL b]],.arr 1 2 [v.cs],.arr 1 2 [w.cs]]⟩)
  (λj=>v.rs.length-j) 0 ⟨Nat.zero_le _,rfl⟩ ?_ ?_
 ·simp[go_sem,rwL,Rw.cs,Qk,hy]
 rintro j ⟨hj,hpre2⟩
 by_cases hjl:j=v.rs.length
 ·subst hjl
  have he:v=w:=by
   rw[qi,hrl,qi]at hpre2
   cases v;cases w;simp_all
  subst he
  simp (disch:=omega) [go_sem,rwL,Rw.cs,Qk,Q0]
  exact⟨i+1,⟨by omega,by rw[Qa hq,Qa hr,hpre]⟩,by omega,by omega⟩
 have hjt:j<v.rs.length:=by omega
 have hjt2:j<w.rs.length:=by omega
 have hu:v.rs[j]?=some v.rs[j]:=q9 hjt
 have hx:w.rs[j]?=some w.rs[j]:=q9 hjt2
 have hdiff2:v.rs[j]≠w.rs[j]->¬ a=b:=λhne=>hdiff λh=>by
  subst h
  exact hne rfl
 generalize v.rs[j]=r at *
 generalize w.rs[j]=s at *
 obtain⟨_,hu'⟩:=q8.1 hu
 obtain⟨_,hx'⟩:=q8.1 hx
 by_cases hrs:r=s
 ·subst hrs
  simp (disch:=omega) [go_sem,rwL,Rw.cs,Rn.cs,Qk,hjt,hjt2,hu,hu',hx,hx',Q0]
  exact⟨j+1,⟨by omega,by rw[Qa hu,Qa hx,hpre2]⟩,by omega,by omega⟩
 ·have hne:=hdiff2 hrs
  have hor:¬ r.a=s.a∨¬ r.b=s.b:=by
   by_cases h1:r.a=s.a
   ·right;intro h2;apply hrs;cases r;cases s;simp_all
   ·exact .inl h1
  have hbo:(!r.a == s.a || !r.b == s.b)=true:=by
   rcases hor with h1 | h1<;>simp[h1]
  simp (disch:=omega) [go_sem,rwL,Rw.cs,Rn.cs,Qk,hjt,hjt2,hu,hu',hx,hx',hor,hbo,hne,Q0,L1e.r]
theorem Q7v {f fs:FuncId} (hf:Q9 P f (L1n.c fs) L1n.r L1n.n) (hs:Qcu P fs):Qip P f:=by
 intro a b ha hb hal hbl
 refine PureC.is (Q6 hm hf (qh rfl) ?_) rfl
 unfold L1n.c
 by_cases hlen:a.length=b.length
 case neg =>
  have hne:¬ a=b:=λh=>hlen (by rw[h])
  have hb2:((a.length:Int) != b.length)=true:=by simp;omega
  simp[go_sem,Kd,hb2,hne,hlen,L1n.r]
 simp[go_sem,Kd,hlen]
 refine Qc (α:=Nat) (λi=>i<=a.length/\a.take i=b.take i)
  (λi=>⟨[(0,Kd a),(1,Kd b),(5,.i .i64 i)],[]⟩)
  (λi=>a.length-i) 0 ⟨Nat.zero_le _,rfl⟩ ?_ ?_
 ·simp[go_sem,Kd]
 rintro i ⟨hi,hpre⟩
 by_cases hil:i=a.length
 ·subst hil
  have he:a=b:=by
   rw[qi,hlen,qi]at hpre
   exact hpre
  subst he
  simp[go_sem,Kd,L1n.r]
 have hlt:i<a.length:=by omega
 have hlt2:i<b.length:=by omega
 have hq:a[i]?=some a[i]:=q9 hlt
 have hr:b[i]?=some b[i]:=q9 hlt2
 have va:=ha _ (qb hq)
 have vb:=hb _ (qb hr)
 generalize a[i]=v at *
 generalize b[i]=w at *
 obtain⟨_,hq'⟩:=q8.1 hq
 obtain⟨_,hr'⟩:=q8.1 hr
 have hsc:=hs v w va.1 vb.1 va.2 vb.2
 simp only[rgV]at hsc
 simp (disch:=omega) [go_sem,Kd,rwL,hlt,hlt2,hq,hq',hr,hr',Q0]
 refine Qg hsc ?_
 by_cases he:v=w
 ·subst he
  simp (disch:=omega) [go_sem,Kd,rwL,Q0]
  exact⟨i+1,⟨by omega,by rw[Qa hq,Qa hr,hpre]⟩,by omega,by omega⟩
 ·have hne:¬ a=b:=λh=>by
   rw[h,hr]at hq
   simp at hq
   exact he hq.symm
  simp (disch:=omega) [go_sem,Kd,rwL,he,hne,Q0,L1n.r]
end
def L05.c:C :=(.seq (.reg [Au 2 (.box (.t 0)),Au 3 (.box (.t 1)),Ac 4 0]) (.seq (.blk 0 (.seq (.reg [Af 6 0 2,Al 7 6,Af 8 0 3,Al 9 8,Aj .lss 10 7 9,Am 11 10,Aw 12 11 (.fa 0 (.t 2)),Aw 13 11 (.ld none (.t 12)),Aw 14 11 (.fa 0 (.t 3)),Aw 15 11 (.ld none (.t 14)),Aw 16 11 (.bin .eql (.t 13) (.t 15)),Aw 17 11 (.mv (.t 16)),Av 18 17 (.fa 1 (.t 2)),Av 19 17 (.ld none (.t 18)),Av 20 17 (.fa 1 (.t 3)),Av 21 17 (.ld none (.t 20)),Av 22 17 (.bin .lss (.t 19) (.t 21)),Aw 23 11 (.pick (.t 17) (.t 22) (.c (.b false))),Ao 24 11 23,Am 5 24]) (.ite (.t 5) (.seq (.reg [Ac 4 (-1)]) .ret) (.seq (.reg [Ag 26 2 2,
 Ag 27 2 3,Au 28 (.eqa [1,1] false (.t 26) (.t 27)),Am 25 28]) (.ite (.t 25) (.seq (.reg [Ac 4 0]) .ret) .skip))))) (.seq (.reg [Ac 4 1]) .ret)))
def L05.r:List Rr:=[.tmp 4]
abbrev L05.n:Nat:=29
def L03.c:C :=(.seq (.reg [Ab 2 false]) (.seq (.reg [Au 8 (.mkm none),Am 3 8]) (.seq (.seq (.reg [Am 9 0,An 10 0 9,Ac 11 0]) (.blk 0 (.loop (.seq (.reg [Aj .lss 12 11 10]) (.seq (.ite (.t 12) .skip (.exit 0)) (.seq (.blk 1 (.seq (.reg [Ai 13 4 9 11,Ag 14 4 13,Au 5 (.alloc [(.i .i64 0),(.i .i64 0),(.i .i64 0),(.i .i64 0)]),As 4 5 14]) (.seq (.reg [Am 15 3,Af 16 0 5,Ag 17 2 16,⟨none,none,.eqa [1,1] false (.t 17) (.t 17)⟩,Au 18 (.lk [1,1] (.i .i64 0) false (.t 15) (.t 17)),Ad 19 18 1,Au 20 (.ment [1,1] (.i .i64 0) (.t 15) (.t 17)),Ax1 21 1 20,⟨none,none,.est (.t 15) (.t 21) (.t 19)⟩]) (.reg [Am 22 3,
 Af 23 2 5,Ag 24 2 23,⟨none,none,.eqa [1,1] false (.t 24) (.t 24)⟩,Au 25 (.lk [1,1] (.i .i64 0) false (.t 22) (.t 24)),Ak .sub 26 25 1,Au 27 (.ment [1,1] (.i .i64 0) (.t 22) (.t 24)),Ax1 28 1 27,⟨none,none,.est (.t 22) (.t 28) (.t 26)⟩])))) (.reg [Ad 29 11 1,Am 11 29]))))))) (.seq (.seq (.reg [Am 30 3,Au 31 (.mrng (.t 30))]) (.blk 2 (.loop (.seq (.reg [Au 32 (.mnx (.t 31)),Ax1 33 0 32]) (.seq (.ite (.t 33) .skip (.exit 2)) (.blk 3 (.seq (.reg [Au 34 (.men (.t 31)),Ax1 35 1 34,Am 7 35]) (.seq (.reg [Am 36 7,Ak .neq 37 36 0]) (.ite (.t 37) (.seq (.reg [Ab 2 false]) .ret) .skip))))))))) (.seq (.reg [
 Ab 2 true]) .ret)))))
def L03.r:List Rr:=[.tmp 2]
abbrev L03.n:Nat:=38
def L07.c:C :=(.seq (.reg [Au 3 (.box (.t 1)),Au 4 (.alloc [(.i .i64 0),(.i .i64 0)])]) (.seq (.reg [Am 6 0,Ag 7 2 3,Au 8 (.lk [1,1] .nil false (.t 6) (.t 7)),Am 5 8]) (.seq (.seq (.reg [Am 9 5,An 10 0 9,Ak .eql 11 10 1]) (.ite (.t 11) (.reg [Am 12 0,Ag 13 2 3,⟨none,none,.mdel [1,1] (.t 12) (.t 13)⟩]) (.drw [Am 14 0,Ag 15 2 3,Am 16 5,Au 17 (.slc 2 (.t 16) (some (.c (.i .i64 1))) none),⟨none,none,.mup [1,1] (.t 14) (.t 15) (.t 17)⟩] []))) (.seq (.reg [Am 18 5,Au 19 (.ia 2 (.t 18) (.c (.i .i64 0))),Ag 20 2 19,As 2 4 20]) .ret))))
def L07.r:List Rr:=[.cell 4 (some 2)]
abbrev L07.n:Nat:=21
def L06.c (L07:FuncId):C :=(.seq (.reg [Au 3 (.box (.t 1)),Au 4 (.alloc [.nil])]) (.seq (.reg [Ag 7 2 3,Au 8 (.bso 2 1 [(.i .i64 0),(.i .i64 0)] [(0,(.t 7))]),Au 9 (.build [.nil] [(0,1,(.t 8))]),Au 5 (.alloc [.nil]),As 1 5 9]) (.seq (.seq (.reg [Am 10 0,Ag 11 2 3,Au 12 (.call L07 [.t 10,.t 11]),Au 6 (.alloc [(.i .i64 0),(.i .i64 0)]),As 2 6 12]) (.blk 0 (.loop (.seq (.seq (.reg [Ag 13 2 6,Ag 14 2 3,Au 15 (.eqa [1,1] true (.t 13) (.t 14)),Am 16 15,Av 17 16 (.mv (.t 0)),Av 18 16 (.ld (some 2) (.t 6)),Av 19 16 (.lk [1,1] .nil false (.t 17) (.t 18)),Av 20 16 (.len 0 (.t 19)),Av 21 16 (.bin .gtr (.t 20) (.c (.i .i64 0))),
 Ap 22 16 21]) (.ite (.t 22) .skip (.exit 0))) (.seq (.blk 1 (.reg [Af 26 0 5,Al 27 26,Ag 28 2 6,Au 29 (.bsi 2 1 [(.i .i64 0),(.i .i64 0)] [(0,(.t 28))]),Au 30 (.app 2 16 (.t 27) (.t 29)),Af 31 0 5,As 1 31 30])) (.seq (.seq (.reg [Ag 32 2 6]) (.reg [Au 6 (.alloc [(.i .i64 0),(.i .i64 0)]),As 2 6 32])) (.reg [Am 23 0,Ag 24 2 6,Au 25 (.call L07 [.t 23,.t 24]),As 2 6 25]))))))) (.seq (.reg [Ag 33 1 5,As 1 4 33]) .ret))))
def L06.r:List Rr:=[.cell 4 (some 1)]
abbrev L06.n:Nat:=34
def L04.c (L0m L03 slices_SortFunc_api_Pt_api_Pt L05 L06:FuncId):C :=(.seq (.reg [Az 2,Ac 3 0]) (.seq (.seq (.reg [Am 15 0,An 16 0 15,Ak .gtr 17 16 8192]) (.ite (.t 17) (.seq (.reg [Az 2,Ac 3 2]) .ret) .skip)) (.seq (.seq (.reg [Am 18 0,An 19 0 18,Ac 20 0]) (.blk 0 (.loop (.seq (.reg [Aj .lss 21 20 19]) (.seq (.ite (.t 21) .skip (.exit 0)) (.seq (.blk 1 (.seq (.reg [Ai 22 4 18 20,Ag 23 4 22,Au 5 (.alloc [(.i .i64 0),(.i .i64 0),(.i .i64 0),(.i .i64 0)]),As 4 5 23]) (.seq (.reg [Af 24 0 5,Ag 25 2 24,Au 26 (.call L0m [.t 25]),Au 27 (.un .not (.t 26)),Am 28 27,Aw 29 28 (.fa 2 (.t 5)),Aw 30 28 (.ld (some 2) (.t 29)),
 Aw 31 28 (.call L0m [.t 30]),Aw 32 28 (.un .not (.t 31)),Ao 33 28 32]) (.ite (.t 33) (.seq (.reg [Az 2,Ac 3 8]) .ret) .skip)))) (.reg [Ad 34 20 1,Am 20 34]))))))) (.seq (.seq (.reg [Am 35 0,Au 36 (.call L03 [.t 35]),Au 37 (.un .not (.t 36))]) (.ite (.t 37) (.seq (.reg [Az 2,Ac 3 12]) .ret) .skip)) (.seq (.reg [Au 38 (.mkm none),Am 6 38]) (.seq (.reg [Az 7]) (.seq (.seq (.reg [Am 39 0,An 40 0 39,Ac 41 0]) (.blk 2 (.loop (.seq (.reg [Aj .lss 42 41 40]) (.seq (.ite (.t 42) .skip (.exit 2)) (.seq (.blk 3 (.seq (.reg [Ai 43 4 39 41,Ag 44 4 43,Au 9 (.alloc [(.i .i64 0),(.i .i64 0),(.i .i64 0),(.i .i64 0)]),
 As 4 9 44]) (.seq (.seq (.reg [Af 45 0 9,Ag 46 2 45,Af 47 2 9,Ag 48 2 47,Au 49 (.eqa [1,1] false (.t 46) (.t 48))]) (.ite (.t 49) (.exit 3) .skip)) (.seq (.seq (.reg [Am 50 6,Af 51 0 9,Ag 52 2 51,Au 53 (.lk [1,1] .nil false (.t 50) (.t 52)),An 54 0 53,Ak .eql 55 54 0]) (.ite (.t 55) (.reg [Am 56 7,Af 57 0 9,Ag 58 2 57,Au 59 (.bsi 2 1 [(.i .i64 0),(.i .i64 0)] [(0,(.t 58))]),Au 60 (.app 2 16 (.t 56) (.t 59)),Am 7 60]) .skip)) (.reg [Am 61 6,Af 62 0 9,Ag 63 2 62,Af 65 2 9,Ag 66 2 65,Au 67 (.bsi 2 1 [(.i .i64 0),(.i .i64 0)] [(0,(.t 66))]),Au 68 (.ment [1,1] .nil (.t 61) (.t 63)),Ax1 64 0 68,Au 69 (.app 2 16 (.t 64) (.t 67)),
 Ax1 70 1 68,⟨none,none,.est (.t 61) (.t 70) (.t 69)⟩]))))) (.reg [Ad 71 41 1,Am 41 71]))))))) (.seq (.reg [Am 72 7,Au 73 (.call slices_SortFunc_api_Pt_api_Pt [.t 72,(.c (.f L05 []))])]) (.seq (.seq (.reg [Am 74 7,An 75 0 74,Ac 76 0]) (.blk 4 (.loop (.seq (.reg [Aj .lss 77 76 75]) (.seq (.ite (.t 77) .skip (.exit 4)) (.seq (.blk 5 (.seq (.reg [Ai 78 2 74 76,Ag 79 2 78,Au 11 (.alloc [(.i .i64 0),(.i .i64 0)]),As 2 11 79]) (.reg [Am 80 6,Ag 81 2 11,Au 82 (.lk [1,1] .nil false (.t 80) (.t 81)),Au 83 (.call slices_SortFunc_api_Pt_api_Pt [.t 82,(.c (.f L05 []))])]))) (.reg [Ad 84 76 1,Am 76 84])))))))
 (.seq (.reg [Az 12]) (.seq (.seq (.reg [Am 85 7,An 86 0 85,Ac 87 0]) (.blk 6 (.loop (.seq (.reg [Aj .lss 88 87 86]) (.seq (.ite (.t 88) .skip (.exit 6)) (.seq (.blk 7 (.seq (.reg [Ai 89 2 85 87,Ag 90 2 89,Au 14 (.alloc [(.i .i64 0),(.i .i64 0)]),As 2 14 90]) (.blk 8 (.loop (.seq (.seq (.reg [Am 91 6,Ag 92 2 14,Au 93 (.lk [1,1] .nil false (.t 91) (.t 92)),An 94 0 93,Ak .gtr 95 94 0]) (.ite (.t 95) .skip (.exit 8))) (.blk 9 (.reg [Am 96 12,Am 97 6,Ag 98 2 14,Au 99 (.call L06 [.t 97,.t 98]),Au 100 (.bso 1 1 [.nil] [(0,(.t 99))]),Au 101 (.app 1 24 (.t 96) (.t 100)),Am 12 101]))))))) (.reg [Ad 102 87 1,
 Am 87 102]))))))) (.seq (.reg [Am 103 12,Am 2 103,Ac 3 0]) .ret))))))))))))
def L04.r:List Rr:=[.tmp 2,.tmp 3]
abbrev L04.n:Nat:=104
def L17.c:C :=(.seq (.reg [Au 3 (.box (.t 1)),Ac 4 0]) (.seq (.reg [Ac 5 0]) (.seq (.seq (.reg [Ac 6 0]) (.blk 0 (.loop (.seq (.seq (.reg [Am 7 6,Am 8 0,An 9 0 8,Aj .lss 10 7 9]) (.ite (.t 10) .skip (.exit 0))) (.seq (.blk 1 (.seq (.seq (.drw [Am 13 0,Am 14 6,Ai 15 4 13 14,Af 16 0 15,Ag 17 2 16,Ag 18 2 3,Au 19 (.eqa [1,1] false (.t 17) (.t 18))] []) (.ite (.t 19) (.reg [Am 20 5,Ad 21 20 1,Am 5 21]) .skip)) (.seq (.drw [Am 22 0,Am 23 6,Ai 24 4 22 23,Af 25 2 24,Ag 26 2 25,Ag 27 2 3,Au 28 (.eqa [1,1] false (.t 26) (.t 27))] []) (.ite (.t 28) (.reg [Am 29 5,Ak .sub 30 29 1,Am 5 30]) .skip)))) (.reg [
 Am 11 6,Ad 12 11 1,Am 6 12])))))) (.seq (.reg [Am 31 5,Am 4 31]) .ret))))
def L17.r:List Rr:=[.tmp 4]
abbrev L17.n:Nat:=32
def L15.c (L17:FuncId):C :=(.seq (.reg [Ab 2 false]) (.seq (.seq (.reg [Ac 3 0]) (.blk 0 (.loop (.seq (.seq (.reg [Am 4 3,Am 5 0,An 6 0 5,Aj .lss 7 4 6]) (.ite (.t 7) .skip (.exit 0))) (.seq (.blk 1 (.seq (.reg [Am 10 0,Am 11 0,Am 12 3,Ai 13 4 11 12,Af 14 0 13,Ag 15 2 14,Au 16 (.call L17 [.t 10,.t 15]),Ak .neq 17 16 0,Am 18 17,Aw 19 18 (.mv (.t 0)),Aw 20 18 (.mv (.t 0)),Aw 21 18 (.mv (.t 3)),Aw 22 18 (.ia 4 (.t 20) (.t 21)),Aw 23 18 (.fa 2 (.t 22)),Aw 24 18 (.ld (some 2) (.t 23)),Aw 25 18 (.call L17 [.t 19,.t 24]),Aw 26 18 (.bin .neq (.t 25) (.c (.i .i64 0))),Ao 27 18 26]) (.ite (.t 27) (.seq (.reg [
 Ab 2 false]) .ret) .skip))) (.reg [Am 8 3,Ad 9 8 1,Am 3 9])))))) (.seq (.reg [Ab 2 true]) .ret)))
def L15.r:List Rr:=[.tmp 2]
abbrev L15.n:Nat:=28
def L19.c:C :=(.seq (.reg [Au 2 (.box (.t 0)),Au 3 (.box (.t 1)),Ab 4 false]) (.seq (.seq (.reg [Af 5 0 2,Af 6 0 5,Al 7 6,Af 8 0 3,Af 9 0 8,Al 10 9,Aj .neq 11 7 10]) (.ite (.t 11) (.seq (.reg [Af 12 0 2,Af 13 0 12,Al 14 13,Af 15 0 3,Af 16 0 15,Al 17 16,Aj .lss 18 14 17,Am 4 18]) .ret) .skip)) (.seq (.seq (.reg [Af 19 0 2,Af 20 1 19,Al 21 20,Af 22 0 3,Af 23 1 22,Al 24 23,Aj .neq 25 21 24]) (.ite (.t 25) (.seq (.reg [Af 26 0 2,Af 27 1 26,Al 28 27,Af 29 0 3,Af 30 1 29,Al 31 30,Aj .lss 32 28 31,Am 4 32]) .ret) .skip)) (.seq (.seq (.reg [Af 33 2 2,Af 34 0 33,Al 35 34,Af 36 2 3,Af 37 0 36,Al 38 37,Aj .neq 39 35 38])
 (.ite (.t 39) (.seq (.reg [Af 40 2 2,Af 41 0 40,Al 42 41,Af 43 2 3,Af 44 0 43,Al 45 44,Aj .lss 46 42 45,Am 4 46]) .ret) .skip)) (.seq (.reg [Af 47 2 2,Af 48 1 47,Al 49 48,Af 50 2 3,Af 51 1 50,Al 52 51,Aj .lss 53 49 52,Am 4 53]) .ret)))))
def L19.r:List Rr:=[.tmp 4]
abbrev L19.n:Nat:=54
def L18.c (L19:FuncId):C :=(.seq (.reg [Au 7 (.box (.t 3)),Ac 8 0]) (.seq (.reg [Ac 9 (-1)]) (.seq (.seq (.reg [Ac 10 0]) (.blk 0 (.loop (.seq (.seq (.reg [Am 11 10,Am 12 0,An 13 0 12,Aj .lss 14 11 13]) (.ite (.t 14) .skip (.exit 0))) (.seq (.blk 1 (.seq (.seq (.drw [Am 17 1,Am 18 10,Ai 19 1 17 18,Al 20 19,Am 21 20,Aw 22 21 (.mv (.t 0)),Aw 23 21 (.mv (.t 10)),Aw 24 21 (.ia 4 (.t 22) (.t 23)),Aw 25 21 (.fa 0 (.t 24)),Aw 26 21 (.ld (some 2) (.t 25)),Aw 27 21 (.mv (.t 0)),Aw 28 21 (.mv (.t 10)),Aw 29 21 (.ia 4 (.t 27) (.t 28)),Aw 30 21 (.fa 2 (.t 29)),Aw 31 21 (.ld (some 2) (.t 30)),Aw 32 21 (.eqa [1,1] false (.t 26) (.t 31)),
 Ao 33 21 32,Am 34 33,Aw 35 34 (.mv (.t 2)),Aw 36 34 (.mv (.t 35)),Av 37 36 (.mv (.t 0)),Av 38 36 (.mv (.t 10)),Av 39 36 (.ia 4 (.t 37) (.t 38)),Av 40 36 (.fa 0 (.t 39)),Av 41 36 (.ld (some 2) (.t 40)),Av 42 36 (.ld (some 2) (.t 7)),Av 43 36 (.eqa [1,1] true (.t 41) (.t 42)),Aw 44 34 (.pick (.t 36) (.t 43) (.c (.b false))),Ao 45 34 44] []) (.ite (.t 45) (.exit 1) .skip)) (.seq (.drw [Am 46 9,Ak .lss 47 46 0,Am 48 47,Aw 49 48 (.mv (.t 0)),Aw 50 48 (.mv (.t 10)),Aw 51 48 (.ia 4 (.t 49) (.t 50)),Aw 52 48 (.ld (some 4) (.t 51)),Aw 53 48 (.mv (.t 0)),Aw 54 48 (.mv (.t 9)),Aw 55 48 (.ia 4 (.t 53) (.t 54)),
 Aw 56 48 (.ld (some 4) (.t 55)),Aw 57 48 (.call L19 [.t 52,.t 56]),Ao 58 48 57] []) (.ite (.t 58) (.reg [Am 59 10,Am 9 59]) .skip)))) (.reg [Am 15 10,Ad 16 15 1,Am 10 16])))))) (.seq (.reg [Am 60 9,Am 8 60]) .ret))))
def L18.r:List Rr:=[.tmp 8]
abbrev L18.n:Nat:=61
def L16.c (L10 L15 L18:FuncId):C :=(.seq (.reg [Az 2,Ac 3 0]) (.seq (.seq (.reg [Am 10 0,An 11 0 10,Ak .gtr 12 11 8192]) (.ite (.t 12) (.seq (.reg [Az 2,Ac 3 2]) .ret) .skip)) (.seq (.seq (.reg [Ac 4 0]) (.blk 0 (.loop (.seq (.seq (.reg [Am 13 4,Am 14 0,An 15 0 14,Aj .lss 16 13 15]) (.ite (.t 16) .skip (.exit 0))) (.seq (.blk 1 (.seq (.reg [Am 19 0,Am 20 4,Ai 21 4 19 20,Af 22 0 21,Ag 23 2 22,Au 24 (.call L10 [.t 23]),Au 25 (.un .not (.t 24)),Am 26 25,Aw 27 26 (.mv (.t 0)),Aw 28 26 (.mv (.t 4)),Aw 29 26 (.ia 4 (.t 27) (.t 28)),Aw 30 26 (.fa 2 (.t 29)),Aw 31 26 (.ld (some 2) (.t 30)),Aw 32 26 (.call L10 [.t 31]),
 Aw 33 26 (.un .not (.t 32)),Ao 34 26 33]) (.ite (.t 34) (.seq (.reg [Az 2,Ac 3 8]) .ret) .skip))) (.reg [Am 17 4,Ad 18 17 1,Am 4 18])))))) (.seq (.seq (.reg [Am 35 0,Au 36 (.call L15 [.t 35]),Au 37 (.un .not (.t 36))]) (.ite (.t 37) (.seq (.reg [Az 2,Ac 3 12]) .ret) .skip)) (.seq (.reg [Az 5]) (.seq (.reg [Am 38 0,An 39 0 38,Au 40 (.mks 1 1 [(.b false)] (.t 39)),Am 6 40]) (.seq (.reg [Am 41 0,Am 42 6,Au 43 (.build [(.i .i64 0),(.i .i64 0)] []),Au 44 (.call L18 [.t 41,.t 42,(.c (.b false)),.t 43]),Am 7 44]) (.seq (.blk 2 (.loop (.seq (.seq (.reg [Am 45 7,Ak .geq 46 45 0]) (.ite (.t 46) .skip (.exit 2)))
 (.blk 3 (.seq (.reg [Am 47 0,Am 48 7,Ai 49 4 47 48,Af 50 0 49,Ag 51 2 50,Au 8 (.alloc [(.i .i64 0),(.i .i64 0)]),As 2 8 51]) (.seq (.reg [Az 9]) (.seq (.blk 4 (.loop (.seq (.seq (.drw [Am 52 7,Ak .geq 53 52 0,Am 54 53,Av 55 54 (.mv (.t 0)),Av 56 54 (.mv (.t 7)),Av 57 54 (.ia 4 (.t 55) (.t 56)),Av 58 54 (.fa 2 (.t 57)),Av 59 54 (.ld (some 2) (.t 58)),Av 60 54 (.ld (some 2) (.t 8)),Av 61 54 (.eqa [1,1] true (.t 59) (.t 60)),Ap 62 54 61] []) (.ite (.t 62) .skip (.exit 4))) (.blk 5 (.seq (.reg [Am 63 9,Am 64 0,Am 65 7,Ai 66 4 64 65,Af 67 0 66,Ag 68 2 67,Au 69 (.bsi 2 1 [(.i .i64 0),(.i .i64 0)] [(0,(.t 68))]),
 Au 70 (.app 2 16 (.t 63) (.t 69)),Am 9 70]) (.seq (.reg [Am 71 6,Am 72 7,Ai 73 1 71 72,⟨none,none,.st 1 (.t 73) (.c (.b true))⟩]) (.reg [Am 74 0,Am 75 6,Am 76 0,Am 77 7,Ai 78 4 76 77,Af 79 2 78,Ag 80 2 79,Au 81 (.call L18 [.t 74,.t 75,(.c (.b true)),.t 80]),Am 7 81]))))))) (.seq (.seq (.reg [Am 82 7,Ak .geq 83 82 0]) (.ite (.t 83) (.seq (.reg [Am 84 9,Am 85 0,Am 86 7,Ai 87 4 85 86,Af 88 0 87,Ag 89 2 88,Au 90 (.bsi 2 1 [(.i .i64 0),(.i .i64 0)] [(0,(.t 89))]),Au 91 (.app 2 16 (.t 84) (.t 90)),Am 9 91]) (.reg [Am 92 6,Am 93 7,Ai 94 1 92 93,⟨none,none,.st 1 (.t 94) (.c (.b true))⟩])) .skip)) (.seq
 (.reg [Am 95 5,Am 96 9,Au 97 (.build [.nil] [(0,1,(.t 96))]),Au 98 (.bso 1 1 [.nil] [(0,(.t 97))]),Au 99 (.app 1 24 (.t 95) (.t 98)),Am 5 99]) (.reg [Am 100 0,Am 101 6,Au 102 (.build [(.i .i64 0),(.i .i64 0)] []),Au 103 (.call L18 [.t 100,.t 101,(.c (.b false)),.t 102]),Am 7 103])))))))))) (.seq (.reg [Am 104 5,Am 2 104,Ac 3 0]) .ret)))))))))
def L16.r:List Rr:=[.tmp 2,.tmp 3]
abbrev L16.n:Nat:=105
def Xj (es:List Eg) (p:P2):Int:=(es.countP (λe=>decide (e.1=p)):Int)-es.countP (λe=>decide (e.2=p))
def Q1y (es:List Eg):Bool:=es.all λe=>decide (Xj es e.1=0) && decide (Xj es e.2=0)
theorem balB_iff {es:List Eg}:Q1y es=true↔Kj es:=by
 unfold Q1y
 rw[qj]
 constructor
 ·intro h p
  by_cases hp:(∃e∈es,e.1=p)∨∃e∈es,e.2=p
  ·have:Xj es p=0:=by
    rcases hp with⟨e,he,rfl⟩ | ⟨e,he,rfl⟩
    ·have:=h e he;simp only[Bool.and_eq_true,decide_eq_true_eq]at this;exact this.1
    ·have:=h e he;simp only[Bool.and_eq_true,decide_eq_true_eq]at this;exact this.2
   unfold Xj at this;omega
  ·have h1:es.countP (λe=>decide (e.1=p))=0:=List.countP_eq_zero.2 λe he=>by
    simp only[decide_eq_true_eq];exact λhh=>hp (.inl ⟨e,he,hh⟩)
   have h2:es.countP (λe=>decide (e.2=p))=0:=List.countP_eq_zero.2 λe he=>by
    simp only[decide_eq_true_eq];exact λhh=>hp (.inr ⟨e,he,hh⟩)
   rw[h1,h2]
 ·intro h e he
  have h1:=h e.1
  have h2:=h e.2
  simp only[Bool.and_eq_true,decide_eq_true_eq]
  unfold Xj
  omega
def Qu3 (P:Program) (f:FuncId):Prop:=∀(l:List Sg4) (p:P2),l.length<=4096->CallIs P f [Qp l,p.enc] (.i .i64 (Xj (egs l) p))
def Qa7 (P:Program) (f:FuncId):Prop:=∀l:List Sg4,l.length<=4096->CallIs P f [Qp l] (.b (Q1y (egs l)))
theorem Uy (l:List Sg4):(egs l).length=l.length:=by simp[egs]
theorem Q9z (es:List Eg) (e:Eg) (p:P2):Xj (es++[e]) p=Xj es p+(if e.1=p then 1 else 0)-(if e.2=p then 1 else 0):=by
 unfold Xj
 rw[List.countP_append,List.countP_append,List.countP_singleton,List.countP_singleton]
 by_cases h1:e.1=p<;>by_cases h2:e.2=p<;>simp[h1,h2]<;>omega
theorem Qck (es:List Eg) (p:P2):-(es.length:Int)<=Xj es p/\Xj es p<=es.length:=by
 unfold Xj
 have h1:=List.countP_le_length (p:=λe:Eg=>decide (e.1=p)) (l:=es)
 have h2:=List.countP_le_length (p:=λe:Eg=>decide (e.2=p)) (l:=es)
 omega
theorem p2_iff {a b:P2}:a=b↔a.x=b.x/\a.y=b.y:=by cases a;cases b;simp
theorem B8 (l:List Sg4) {k:Nat} {s:Sg4} (h:l[k]?=some s):egs (l.take (k+1))=egs (l.take k)++[s.eg]:=by
 unfold egs;rw[List.take_add_one,h];simp
section
variable {P:Program} (hm:P.follows .mixedOrders=true)
include hm
theorem Q0x {f:FuncId} (hf:Q9 P f L17.c L17.r L17.n):Qu3 P f:=by
 intro l p hl
 refine PureC.is (Q6 hm hf (qh rfl) ?_) rfl
 unfold L17.c
 simp[go_sem,Qp,P2.enc,P2.cs]
 refine Qc (α:=Nat) (λk=>k<=l.length)
  (λk=>⟨[(0,Qp l),(3,.p 0 1 0 0),(5,.i .i64 (Xj (egs (l.take k)) p)),(6,.i .i64 k)],[.arr 1 2 [p.cs]]⟩)
  (λk=>l.length-k) 0 (Nat.zero_le _) ?_ ?_
 ·simp[go_sem,Qp,P2.cs,egs,Xj]
 ·intro k hk
  by_cases hkl:k=l.length
  ·subst hkl
   rw[qi]
   simp[go_sem,Qp,L17.r]
  ·have hlt:k<l.length:=by omega
   have hq:l[k]?=some l[k]:=q9 hlt
   generalize l[k]=s at hq
   obtain⟨_,hq'⟩:=q8.1 hq
   have hs:=Q9z (egs (l.take k)) s.eg p
   rw[<- B8 l hq]at hs
   have hb:=Qck (egs (l.take k)) p
   rw[Uy,qv]at hb
   generalize Xj (egs (l.take k)) p=B at *
   simp only[Sg4.eg,p2_iff]at hs
   have ea:(s.a.1=p.x/\s.a.2=p.y)↔(s.a.1 == p.x && s.a.2 == p.y)=true:=by simp
   have eb:(s.b.1=p.x/\s.b.2=p.y)↔(s.b.1 == p.x && s.b.2 == p.y)=true:=by simp
   simp only[ea,eb]at hs
   cases ha:(s.a.1 == p.x && s.a.2 == p.y)<;>cases hb2:(s.b.1 == p.x && s.b.2 == p.y) <;>
    simp only[ha,hb2,if_true,if_false,Bool.false_eq_true]at hs <;>
    simp (disch:=omega) [go_sem,Qp,hlt,hq,hq',Sg4.cs,P2.cs,ha,hb2,Q0] <;>
    exact⟨k+1,by omega,by omega,by simp[hs]⟩
end
end Go.Abs
