/- Part of the library on which the proof stands: an abstract machine, its values and its soundness against the model; or what functions of the program do to such values. -/
import Derived.Test.YtjggbpiapinceaaGreatGoSkC
import Derived.Test.YtjggbpiapinceaaGreatGoStB
import Derived.Test.YtjggbpiapinceaaGreatGoSkA
import Derived.Test.YtjggbpiapinceaaGreatGoSet
import Derived.Test.YtjggbpiapinceaaGreatGoRw
set_option linter.unusedVariables false
set_option linter.unusedSimpArgs false
set_option maxHeartbeats 8000000
set_option maxRecDepth 20000
namespace Go.Abs
def Qi2 (P:Program) (f:FuncId):Prop:=∀a b:List Rw,RgV a->RgV b->RgB a->RgB b->CallIs P f [rgV a,rgV b] (.b (decide (a=b)))
section
variable {P:Program} (hm:P.follows .mixedOrders=true)
include hm
theorem Q74 {f fm:FuncId} (hf:Qa P f (L28.c fm) L28.r L28.n) (hmm:Qtj P fm):Q6w P f:=by
 intro l hl
 obtain⟨hcb,hmc⟩:=hmm
 refine PureC.is (Q8 hm hf (qh rfl) ?_) rfl
 unfold L28.c
 cases l with
 | nil =>
   simp[go_sem,vsV,bLo,bHi,V3.enc,V3.cs,L28.r]
 | cons v0 vs =>
   generalize hvs:v0::vs=l at hl ⊢
   have hll:0<l.length:=by rw[<- hvs];simp
   have hne:l≠[]:=by rw[<- hvs];simp
   have hq0:l[0]?=some v0:=by rw[<- hvs];rfl
   have eLo:bLo l=Q3w v0 l:=by rw[<- hvs];rfl
   have eHi:bHi l=Q3x v0 l:=by rw[<- hvs];rfl
   obtain⟨_,hq0'⟩:=q8.1 hq0
   clear hvs
   have hlf:((l.length:Int) == 0)=false:=by simp;omega
   rw[eLo,eHi]
   simp (disch:=omega) [go_sem,vsV,hll,hne,hlf,hq0,hq0',V3.cs,show ¬ l.length=0 by omega]
   obtain⟨A,hA⟩:∃A:Nat->V3,∀i,A i=Q3w v0 (l.take i):=⟨_,λ_=>rfl⟩
   obtain⟨B,hB⟩:∃B:Nat->V3,∀i,B i=Q3x v0 (l.take i):=⟨_,λ_=>rfl⟩
   have hA0:A 0=v0:=by rw[hA];rfl
   have hB0:B 0=v0:=by rw[hB];rfl
   have hAn:A l.length=Q3w v0 l:=by rw[hA,qi]
   have hBn:B l.length=Q3x v0 l:=by rw[hB,qi]
   refine Qf (α:=Nat) (λi=>i<=l.length)
    (λi=>⟨[(2,.p 0 1 0 0),(3,.p 1 1 0 0),(5,.p 2 1 0 0),(6,.p 3 1 0 0),(7,.f fm []),(21,vsV l),(22,.i .i64 l.length),(23,.i .i64 i)],[.arr 1 3 [(⟨0,0,0⟩:V3).cs],.arr 1 3 [(⟨0,0,0⟩:V3).cs],.arr 1 3 [(A i).cs],.arr 1 3 [(B i).cs]]⟩)
    (λi=>l.length-i) 0 (Nat.zero_le _) ?_ ?_
   ·simp[go_sem,vsV,V3.cs,hA0,hB0]
   intro i hi
   by_cases hil:i=l.length
   ·subst hil
    rw[hAn,hBn]
    simp[go_sem,vsV,V3.cs,V3.enc,L28.r]
   have hlt:i<l.length:=by omega
   have hq:l[i]?=some l[i]:=q9 hlt
   have hAs:A (i+1)=⟨min (A i).x (l[i]).x,min (A i).y (l[i]).y,min (A i).z (l[i]).z⟩:=by rw[hA,hA,Qd hq,Qmx]
   have hBs:B (i+1)=⟨max (B i).x (l[i]).x,max (B i).y (l[i]).y,max (B i).z (l[i]).z⟩:=by rw[hB,hB,Qd hq,Qmy]
   generalize l[i]=v at *
   obtain⟨_,hq'⟩:=q8.1 hq
   have c1:=hmc (A i).x (B i).x v.x
   have c2:=hmc (A i).y (B i).y v.y
   have c3:=hmc (A i).z (B i).z v.z
   simp (disch:=omega) [go_sem,vsV,hlt,hq,hq',V3.cs,Q3]
   refine⟨hcb,Q4 c1 ?_⟩
   simp (disch:=omega) [go_sem,vsV,V3.cs,Q3]
   refine⟨hcb,Q4 c2 ?_⟩
   simp (disch:=omega) [go_sem,vsV,V3.cs,Q3]
   refine⟨hcb,Q4 c3 ?_⟩
   simp (disch:=omega) [go_sem,vsV,V3.cs,Q3]
   exact⟨i+1,by omega,by omega,by omega,by rw[hAs];exact⟨rfl,rfl,rfl⟩,by rw[hBs];exact⟨rfl,rfl,rfl⟩⟩
theorem Qdk {f fc fb:FuncId} (hf:Qa P f (L0f.c fc fb) L0f.r L0f.n) (hc:Ys P fc) (hb:Q6w P fb):Qjw P f:=by
 intro m hm0
 have hcc:=hc m
 rw[hm0]at hcc
 have hl:=(Mesh.check_zero.1 hm0).1
 have hbc:=hb m.verts (by omega)
 refine PureC.is (Q8 hm hf (qh rfl) ?_) rfl
 unfold L0f.c
 simp[go_sem,Mesh.enc,Mesh.cs]
 refine Q4 hcc ?_
 simp[go_sem]
 refine Q4 hbc ?_
 simp[go_sem,V3.enc,V3.cs,L0f.r]
theorem Q7d {f:FuncId} (hf:Qa P f L14.c L14.r L14.n):Qi2 P f:=by
 intro a b ha hb ba bb
 have hal:=ha.len ba
 have hbl:=hb.len bb
 refine PureC.is (Q8 hm hf (qh rfl) ?_) rfl
 unfold L14.c
 by_cases hlen:a.length=b.length
 case neg =>
  have hne:¬ a=b:=λh=>hlen (by rw[h])
  have hb1:((a.length:Int) == b.length)=false:=by simp;omega
  have hb2:((a.length:Int) != b.length)=true:=by simp;omega
  simp[go_sem,rgV,hb1,hb2,hne,hlen,L14.r]
 simp[go_sem,rgV,hlen]
 refine Qf (α:=Nat) (λi=>i<=a.length/\a.take i=b.take i)
  (λi=>⟨[(2,.p 0 1 0 0),(3,.p 1 1 0 0),(5,.i .i64 i)],[.arr 1 1 [[rwL a]],.arr 1 1 [[rwL b]]]⟩)
  (λi=>a.length-i) 0 ⟨Nat.zero_le _,rfl⟩ ?_ ?_
 ·simp[go_sem,rwL]
 rintro i ⟨hi,hpre⟩
 by_cases hil:i=a.length
 ·subst hil
  have he:a=b:=by
   rw[qi,hlen,qi]at hpre
   exact hpre
  subst he
  simp[go_sem,rwL,L14.r]
 have hlt:i<a.length:=by omega
 have hlt2:i<b.length:=by omega
 have hq:a[i]?=some a[i]:=q9 hlt
 have hr:b[i]?=some b[i]:=q9 hlt2
 have hal2:=(ha.rs _ (qb hq)).len (ba.rnb ha (qb hq))
 generalize a[i]=v at *
 generalize b[i]=w at *
 obtain⟨_,hq'⟩:=q8.1 hq
 obtain⟨_,hr'⟩:=q8.1 hr
 have hdiff:v≠w->¬ a=b:=λhvw he=>by
  rw[he,hr]at hq
  simp at hq
  exact hvw hq.symm
 by_cases hy:v.y=w.y
 case neg =>
  have hne:=hdiff λh=>hy (by rw[h])
  have hb1:(v.y != w.y)=true:=by simpa using hy
  simp (disch:=omega) [go_sem,rwL,hlt,hlt2,hq,hq',hr,hr',Rw.cs,hy,hb1,hne,Q3,L14.r]
 by_cases hrl:v.rs.length=w.rs.length
 case neg =>
  have hne:=hdiff λh=>hrl (by rw[h])
  have hb1:((v.rs.length:Int) != w.rs.length)=true:=by simp;omega
  simp (disch:=omega) [go_sem,rwL,hlt,hlt2,hq,hq',hr,hr',Rw.cs,Zj,hy,hrl,hb1,hne,Q3,L14.r]
 simp (disch:=omega) [go_sem,rwL,hlt,hlt2,hq,hq',hr,hr',Rw.cs,Zj,hy,hrl,Q3]
 refine Qf (α:=Nat) (λj=>j<=v.rs.length/\v.rs.take j=w.rs.take j)
  (λj=>⟨[(2,.p 0 1 0 0),(3,.p 1 1 0 0),(5,.i .i64 i),(6,.p 2 1 0 0),(7,.p 3 1 0 0),(8,.i .i64 j)],[.arr 1 1 [[rwL a]],.arr 1 1 [[rwL b]],.arr 1 2 [v.cs],.arr 1 2 [w.cs]]⟩)
  (λj=>v.rs.length-j) 0 ⟨Nat.zero_le _,rfl⟩ ?_ ?_
 ·simp[go_sem,rwL,Rw.cs,Zj,hy]
 rintro j ⟨hj,hpre2⟩
 by_cases hjl:j=v.rs.length
 ·subst hjl
  have he:v=w:=by
   rw[qi,hrl,qi]at hpre2
   cases v;cases w;simp_all
  subst he
  simp (disch:=omega) [go_sem,rwL,Rw.cs,Zj,Q3]
  exact⟨i+1,⟨by omega,by rw[Qd hq,Qd hr,hpre]⟩,by omega,by omega⟩
 have hjt:j<v.rs.length:=by omega
 have hjt2:j<w.rs.length:=by omega
 have hu:v.rs[j]?=some v.rs[j]:=q9 hjt
 have hx:w.rs[j]?=some w.rs[j]:=q9 hjt2
 have hdiff2:v.rs[j]≠w.rs[j]->¬ a=b:=λhne=>hdiff λh=>by
  subst h
  exact hne rfl
 generalize v.rs[j]=r at *
 generalize w.rs[j]=s at *
 obtain⟨_,hu'⟩:=q8.1 hu
 obtain⟨_,hx'⟩:=q8.1 hx
 by_cases hrs:r=s
 ·subst hrs
  simp (disch:=omega) [go_sem,rwL,Rw.cs,Rn.cs,Zj,hjt,hjt2,hu,hu',hx,hx',Q3]
  exact⟨j+1,⟨by omega,by rw[Qd hu,Qd hx,hpre2]⟩,by omega,by omega⟩
 ·have hne:=hdiff2 hrs
  have hor:¬ r.a=s.a∨¬ r.b=s.b:=by
   by_cases h1:r.a=s.a
   ·right;intro h2;apply hrs;cases r;cases s;simp_all
   ·exact .inl h1
  have hbo:(!r.a == s.a || !r.b == s.b)=true:=by
   rcases hor with h1 | h1<;>simp[h1]
  simp (disch:=omega) [go_sem,rwL,Rw.cs,Rn.cs,Zj,hjt,hjt2,hu,hu',hx,hx',hor,hbo,hne,Q3,L14.r]
end
def L09.c:C :=(.seq (.reg [Au 2 (.box (.t 0)),Au 3 (.box (.t 1)),Ac 4 0]) (.seq (.blk 0 (.seq (.reg [Af 6 0 2,Al 7 6,Af 8 0 3,Al 9 8,Aj .lss 10 7 9,Am 11 10,Aw 12 11 (.fa 0 (.t 2)),Aw 13 11 (.ld none (.t 12)),Aw 14 11 (.fa 0 (.t 3)),Aw 15 11 (.ld none (.t 14)),Aw 16 11 (.bin .eql (.t 13) (.t 15)),Aw 17 11 (.mv (.t 16)),Av 18 17 (.fa 1 (.t 2)),Av 19 17 (.ld none (.t 18)),Av 20 17 (.fa 1 (.t 3)),Av 21 17 (.ld none (.t 20)),Av 22 17 (.bin .lss (.t 19) (.t 21)),Aw 23 11 (.pick (.t 17) (.t 22) (.c (.b false))),Ao 24 11 23,Am 5 24]) (.ite (.t 5) (.seq (.reg [Ac 4 (-1)]) .ret) (.seq (.reg [Ag 26 2 2,
 Ag 27 2 3,Au 28 (.eqa [1,1] false (.t 26) (.t 27)),Am 25 28]) (.ite (.t 25) (.seq (.reg [Ac 4 0]) .ret) .skip))))) (.seq (.reg [Ac 4 1]) .ret)))
def L09.r:List Rr:=[.tmp 4]
abbrev L09.n:Nat:=29
def L07.c:C :=(.seq (.reg [Ab 2 false]) (.seq (.reg [Au 8 (.mkm none),Am 3 8]) (.seq (.seq (.reg [Am 9 0,An 10 0 9,Ac 11 0]) (.blk 0 (.loop (.seq (.reg [Aj .lss 12 11 10]) (.seq (.ite (.t 12) .skip (.exit 0)) (.seq (.blk 1 (.seq (.reg [Ai 13 4 9 11,Ag 14 4 13,Au 5 (.alloc [(.i .i64 0),(.i .i64 0),(.i .i64 0),(.i .i64 0)]),As 4 5 14]) (.seq (.reg [Am 15 3,Af 16 0 5,Ag 17 2 16,⟨none,none,.eqa [1,1] false (.t 17) (.t 17)⟩,Au 18 (.lk [1,1] (.i .i64 0) false (.t 15) (.t 17)),Ad 19 18 1,Au 20 (.ment [1,1] (.i .i64 0) (.t 15) (.t 17)),Ax1 21 1 20,⟨none,none,.est (.t 15) (.t 21) (.t 19)⟩]) (.reg [Am 22 3,
 Af 23 2 5,Ag 24 2 23,⟨none,none,.eqa [1,1] false (.t 24) (.t 24)⟩,Au 25 (.lk [1,1] (.i .i64 0) false (.t 22) (.t 24)),Ak .sub 26 25 1,Au 27 (.ment [1,1] (.i .i64 0) (.t 22) (.t 24)),Ax1 28 1 27,⟨none,none,.est (.t 22) (.t 28) (.t 26)⟩])))) (.reg [Ad 29 11 1,Am 11 29]))))))) (.seq (.seq (.reg [Am 30 3,Au 31 (.mrng (.t 30))]) (.blk 2 (.loop (.seq (.reg [Au 32 (.mnx (.t 31)),Ax1 33 0 32]) (.seq (.ite (.t 33) .skip (.exit 2)) (.blk 3 (.seq (.reg [Au 34 (.men (.t 31)),Ax1 35 1 34,Am 7 35]) (.seq (.reg [Am 36 7,Ak .neq 37 36 0]) (.ite (.t 37) (.seq (.reg [Ab 2 false]) .ret) .skip))))))))) (.seq (.reg [
 Ab 2 true]) .ret)))))
def L07.r:List Rr:=[.tmp 2]
abbrev L07.n:Nat:=38
def L0b.c:C :=(.seq (.reg [Au 3 (.box (.t 1)),Au 4 (.alloc [(.i .i64 0),(.i .i64 0)])]) (.seq (.reg [Am 6 0,Ag 7 2 3,Au 8 (.lk [1,1] .nil false (.t 6) (.t 7)),Am 5 8]) (.seq (.seq (.reg [Am 9 5,An 10 0 9,Ak .eql 11 10 1]) (.ite (.t 11) (.reg [Am 12 0,Ag 13 2 3,⟨none,none,.mdel [1,1] (.t 12) (.t 13)⟩]) (.drw [Am 14 0,Ag 15 2 3,Am 16 5,Au 17 (.slc 2 (.t 16) (some (.c (.i .i64 1))) none),⟨none,none,.mup [1,1] (.t 14) (.t 15) (.t 17)⟩] []))) (.seq (.reg [Am 18 5,Au 19 (.ia 2 (.t 18) (.c (.i .i64 0))),Ag 20 2 19,As 2 4 20]) .ret))))
def L0b.r:List Rr:=[.cell 4 (some 2)]
abbrev L0b.n:Nat:=21
def L0a.c (L0b:FuncId):C :=(.seq (.reg [Au 3 (.box (.t 1)),Au 4 (.alloc [.nil])]) (.seq (.reg [Ag 7 2 3,Au 8 (.bso 2 1 [(.i .i64 0),(.i .i64 0)] [(0,(.t 7))]),Au 9 (.build [.nil] [(0,1,(.t 8))]),Au 5 (.alloc [.nil]),As 1 5 9]) (.seq (.seq (.reg [Am 10 0,Ag 11 2 3,Au 12 (.call L0b [.t 10,.t 11]),Au 6 (.alloc [(.i .i64 0),(.i .i64 0)]),As 2 6 12]) (.blk 0 (.loop (.seq (.seq (.reg [Ag 13 2 6,Ag 14 2 3,Au 15 (.eqa [1,1] true (.t 13) (.t 14)),Am 16 15,Av 17 16 (.mv (.t 0)),Av 18 16 (.ld (some 2) (.t 6)),Av 19 16 (.lk [1,1] .nil false (.t 17) (.t 18)),Av 20 16 (.len 0 (.t 19)),Av 21 16 (.bin .gtr (.t 20) (.c (.i .i64 0))),
 Ap 22 16 21]) (.ite (.t 22) .skip (.exit 0))) (.seq (.blk 1 (.reg [Af 26 0 5,Al 27 26,Ag 28 2 6,Au 29 (.bsi 2 1 [(.i .i64 0),(.i .i64 0)] [(0,(.t 28))]),Au 30 (.app 2 16 (.t 27) (.t 29)),Af 31 0 5,As 1 31 30])) (.seq (.seq (.reg [Ag 32 2 6]) (.reg [Au 6 (.alloc [(.i .i64 0),(.i .i64 0)]),As 2 6 32])) (.reg [Am 23 0,Ag 24 2 6,Au 25 (.call L0b [.t 23,.t 24]),As 2 6 25]))))))) (.seq (.reg [Ag 33 1 5,As 1 4 33]) .ret))))
def L0a.r:List Rr:=[.cell 4 (some 1)]
abbrev L0a.n:Nat:=34
def L08.c (L0t L07 slices_SortFunc_api_Pt_api_Pt L09 L0a:FuncId):C :=(.seq (.reg [Az 2,Ac 3 0]) (.seq (.seq (.reg [Am 15 0,An 16 0 15,Ak .gtr 17 16 8192]) (.ite (.t 17) (.seq (.reg [Az 2,Ac 3 2]) .ret) .skip)) (.seq (.seq (.reg [Am 18 0,An 19 0 18,Ac 20 0]) (.blk 0 (.loop (.seq (.reg [Aj .lss 21 20 19]) (.seq (.ite (.t 21) .skip (.exit 0)) (.seq (.blk 1 (.seq (.reg [Ai 22 4 18 20,Ag 23 4 22,Au 5 (.alloc [(.i .i64 0),(.i .i64 0),(.i .i64 0),(.i .i64 0)]),As 4 5 23]) (.seq (.reg [Af 24 0 5,Ag 25 2 24,Au 26 (.call L0t [.t 25]),Au 27 (.un .not (.t 26)),Am 28 27,Aw 29 28 (.fa 2 (.t 5)),Aw 30 28 (.ld (some 2) (.t 29)),
 Aw 31 28 (.call L0t [.t 30]),Aw 32 28 (.un .not (.t 31)),Ao 33 28 32]) (.ite (.t 33) (.seq (.reg [Az 2,Ac 3 8]) .ret) .skip)))) (.reg [Ad 34 20 1,Am 20 34]))))))) (.seq (.seq (.reg [Am 35 0,Au 36 (.call L07 [.t 35]),Au 37 (.un .not (.t 36))]) (.ite (.t 37) (.seq (.reg [Az 2,Ac 3 12]) .ret) .skip)) (.seq (.reg [Au 38 (.mkm none),Am 6 38]) (.seq (.reg [Az 7]) (.seq (.seq (.reg [Am 39 0,An 40 0 39,Ac 41 0]) (.blk 2 (.loop (.seq (.reg [Aj .lss 42 41 40]) (.seq (.ite (.t 42) .skip (.exit 2)) (.seq (.blk 3 (.seq (.reg [Ai 43 4 39 41,Ag 44 4 43,Au 9 (.alloc [(.i .i64 0),(.i .i64 0),(.i .i64 0),(.i .i64 0)]),
 As 4 9 44]) (.seq (.seq (.reg [Af 45 0 9,Ag 46 2 45,Af 47 2 9,Ag 48 2 47,Au 49 (.eqa [1,1] false (.t 46) (.t 48))]) (.ite (.t 49) (.exit 3) .skip)) (.seq (.seq (.reg [Am 50 6,Af 51 0 9,Ag 52 2 51,Au 53 (.lk [1,1] .nil false (.t 50) (.t 52)),An 54 0 53,Ak .eql 55 54 0]) (.ite (.t 55) (.reg [Am 56 7,Af 57 0 9,Ag 58 2 57,Au 59 (.bsi 2 1 [(.i .i64 0),(.i .i64 0)] [(0,(.t 58))]),Au 60 (.app 2 16 (.t 56) (.t 59)),Am 7 60]) .skip)) (.reg [Am 61 6,Af 62 0 9,Ag 63 2 62,Af 65 2 9,Ag 66 2 65,Au 67 (.bsi 2 1 [(.i .i64 0),(.i .i64 0)] [(0,(.t 66))]),Au 68 (.ment [1,1] .nil (.t 61) (.t 63)),Ax1 64 0 68,Au 69 (.app 2 16 (.t 64) (.t 67)),
 Ax1 70 1 68,⟨none,none,.est (.t 61) (.t 70) (.t 69)⟩]))))) (.reg [Ad 71 41 1,Am 41 71]))))))) (.seq (.reg [Am 72 7,Au 73 (.call slices_SortFunc_api_Pt_api_Pt [.t 72,(.c (.f L09 []))])]) (.seq (.seq (.reg [Am 74 7,An 75 0 74,Ac 76 0]) (.blk 4 (.loop (.seq (.reg [Aj .lss 77 76 75]) (.seq (.ite (.t 77) .skip (.exit 4)) (.seq (.blk 5 (.seq (.reg [Ai 78 2 74 76,Ag 79 2 78,Au 11 (.alloc [(.i .i64 0),(.i .i64 0)]),As 2 11 79]) (.reg [Am 80 6,Ag 81 2 11,Au 82 (.lk [1,1] .nil false (.t 80) (.t 81)),Au 83 (.call slices_SortFunc_api_Pt_api_Pt [.t 82,(.c (.f L09 []))])]))) (.reg [Ad 84 76 1,Am 76 84])))))))
 (.seq (.reg [Az 12]) (.seq (.seq (.reg [Am 85 7,An 86 0 85,Ac 87 0]) (.blk 6 (.loop (.seq (.reg [Aj .lss 88 87 86]) (.seq (.ite (.t 88) .skip (.exit 6)) (.seq (.blk 7 (.seq (.reg [Ai 89 2 85 87,Ag 90 2 89,Au 14 (.alloc [(.i .i64 0),(.i .i64 0)]),As 2 14 90]) (.blk 8 (.loop (.seq (.seq (.reg [Am 91 6,Ag 92 2 14,Au 93 (.lk [1,1] .nil false (.t 91) (.t 92)),An 94 0 93,Ak .gtr 95 94 0]) (.ite (.t 95) .skip (.exit 8))) (.blk 9 (.reg [Am 96 12,Am 97 6,Ag 98 2 14,Au 99 (.call L0a [.t 97,.t 98]),Au 100 (.bso 1 1 [.nil] [(0,(.t 99))]),Au 101 (.app 1 24 (.t 96) (.t 100)),Am 12 101]))))))) (.reg [Ad 102 87 1,
 Am 87 102]))))))) (.seq (.reg [Am 103 12,Am 2 103,Ac 3 0]) .ret))))))))))))
def L08.r:List Rr:=[.tmp 2,.tmp 3]
abbrev L08.n:Nat:=104
def Bs (es:List Eg) (p:P2):Int:=(es.countP (λe=>decide (e.1=p)):Int)-es.countP (λe=>decide (e.2=p))
def Qez (es:List Eg):Bool:=es.all λe=>decide (Bs es e.1=0) && decide (Bs es e.2=0)
theorem balB_iff {es:List Eg}:Qez es=true↔Q19 es:=by
 unfold Qez
 rw[qj]
 constructor
 ·intro h p
  by_cases hp:(∃e∈es,e.1=p)∨∃e∈es,e.2=p
  ·have:Bs es p=0:=by
    rcases hp with⟨e,he,rfl⟩ | ⟨e,he,rfl⟩
    ·have:=h e he;simp only[Bool.and_eq_true,decide_eq_true_eq]at this;exact this.1
    ·have:=h e he;simp only[Bool.and_eq_true,decide_eq_true_eq]at this;exact this.2
   unfold Bs at this;omega
  ·have h1:es.countP (λe=>decide (e.1=p))=0:=List.countP_eq_zero.2 λe he=>by
    simp only[decide_eq_true_eq];exact λhh=>hp (.inl ⟨e,he,hh⟩)
   have h2:es.countP (λe=>decide (e.2=p))=0:=List.countP_eq_zero.2 λe he=>by
    simp only[decide_eq_true_eq];exact λhh=>hp (.inr ⟨e,he,hh⟩)
   rw[h1,h2]
 ·intro h e he
  have h1:=h e.1
  have h2:=h e.2
  simp only[Bool.and_eq_true,decide_eq_true_eq]
  unfold Bs
  omega
def Qu9 (P:Program) (f:FuncId):Prop:=∀l:List Sg4,l.length<=4096->CallIs P f [Yt l] (.b (Qez (egs l)))
theorem Q46 (l:List Sg4):(egs l).length=l.length:=by simp[egs]
theorem Qmw (es:List Eg) (e:Eg) (p:P2):Bs (es++[e]) p=Bs es p+(if e.1=p then 1 else 0)-(if e.2=p then 1 else 0):=by
 unfold Bs
 rw[List.countP_append,List.countP_append,List.countP_singleton,List.countP_singleton]
 by_cases h1:e.1=p<;>by_cases h2:e.2=p<;>simp[h1,h2]<;>omega
theorem Qjp (es:List Eg) (p:P2):-(es.length:Int)<=Bs es p/\Bs es p<=es.length:=by
 unfold Bs
 have h1:=List.countP_le_length (p:=λe:Eg=>decide (e.1=p)) (l:=es)
 have h2:=List.countP_le_length (p:=λe:Eg=>decide (e.2=p)) (l:=es)
 omega
theorem p2_iff {a b:P2}:a=b↔a.x=b.x/\a.y=b.y:=by cases a;cases b;simp
theorem Qcn (l:List Sg4) {k:Nat} {s:Sg4} (h:l[k]?=some s):egs (l.take (k+1))=egs (l.take k)++[s.eg]:=by
 unfold egs;rw[List.take_add_one,h];simp
def Qfx (l:List Sg4) (i:Nat):Sg4:=(l[i]?).getD Sg4.init
section
variable {α β:Type}
def HeldR (sz:Nat) (hd:β->List V) (en:α->List V) (b:Nat) (hx:List O) (ls:List (β × List α)) (cells:List (List V)):Prop :=
 cells.length=ls.length/\∀(i:Nat) (c:List V) (l:β × List α),cells[i]?=some c->ls[i]?=some l->∃j g,c=hd l.1++[.own (b+j) g 0 l.2.length]/\hx[j]?=some (.arr g sz (l.2.map en))
structure CellsD (hd:β->List V) (en:α->List V):Prop where
 h1:∀b h,(hd b).mapM (Ia h)=some (hd b)
 h2:∀b,∀x∈hd b,x.isD=true
 e1:∀a,∀x∈en a,x.isD=true
variable {sz:Nat} {hd:β->List V} {en:α->List V}
theorem HeldR.nil (b:Nat):HeldR sz hd en b [] [] []:=⟨rfl,by simp⟩
theorem HeldR.app {b:Nat} {hx:List O} {ls:List (β × List α)} {cells:List (List V)} (h:HeldR sz hd en b hx ls cells) (l:List O):HeldR sz hd en b (hx++l) ls cells :=
 ⟨h.1,λi c x h1 h2=>by obtain⟨j,g,h3,h4⟩:=h.2 i c x h1 h2;exact⟨j,g,h3,by rw[qd (q8.1 h4).1];exact h4⟩⟩
theorem HeldR.snoc {b:Nat} {hx:List O} {ls:List (β × List α)} {cells:List (List V)} (h:HeldR sz hd en b hx ls cells) {j g:Nat} {l:β × List α} (hj:hx[j]?=some (.arr g sz (l.2.map en))):HeldR sz hd en b hx (ls++[l]) (cells++[hd l.1++[.own (b+j) g 0 l.2.length]]):=by
 refine⟨by simp[h.1],λi c x h1 h2=>?_⟩
 by_cases hi:i<ls.length
 ·rw[qd (by rw[h.1];exact hi)]at h1
  rw[qd hi]at h2
  exact h.2 i c x h1 h2
 ·rw[qf (by rw[h.1];omega)]at h1
  rw[qf (by omega)]at h2
  have hi0:i-ls.length=0:=by
   have:=(q8.1 h2).1
   simp at this;omega
  rw[h.1,hi0]at h1
  rw[hi0]at h2
  simp at h1 h2
  subst h1;subst h2
  exact⟨j,g,rfl,hj⟩
theorem HeldR.cl (D:CellsD hd en) {b:Nat} {hx:List O} {ls:List (β × List α)} {cells:List (List V)} (h:HeldR sz hd en b hx ls cells) {n:Nat} (hn:b+hx.length<=n):∀el∈cells,∀x∈el,x.cl n=true:=by
 intro el hel x hx'
 obtain⟨i,hi⟩:=qr hel
 have hlt:=(q8.1 hi).1
 obtain⟨j,g,rfl,h4⟩:=h.2 i el _ hi (q9 (by rw[<- h.1];exact hlt))
 have:=(q8.1 h4).1
 rcases qg.1 hx' with hx' | hx'
 ·exact Wt n (D.h2 _ x hx')
 ·simp at hx';subst hx'
  simp[V.cl,V.cl1,V.cl0];omega
theorem Qj7 (D:CellsD hd en) (l:List α):∀el∈l.map en,∀x∈el,x.isD=true:=by
 intro el hel x hx
 obtain⟨a,_,rfl⟩:=qp.1 hel
 exact D.e1 a x hx
theorem Qgp (D:CellsD hd en) (l:List α) (n:Nat):∀el∈l.map en,∀x∈el,x.cl n=true:=λel hel x hx=>Wt n (Qj7 D l el hel x hx)
def Qp4 (sz:Nat) (hd:β->List V) (en:α->List V) (l:β × List α):List V:=hd l.1++[.l sz (l.2.map en)]
theorem HeldR.frz (D:CellsD hd en) {b:Nat} {base hx:List O} {ls:List (β × List α)} {cells:List (List V)} (h:HeldR sz hd en b hx ls cells) (hb:base.length=b):cells.mapM (λel=>el.mapM (Ia (base++hx)))=some (ls.map (Qp4 sz hd en)):=by
 induction cells generalizing ls with
 | nil =>
   have:=h.1
   simp at this
   obtain rfl:=List.length_eq_zero_iff.1 this.symm
   rfl
 | cons c cells ih =>
   have hl:=h.1
   cases ls with
   | nil=>simp at hl
   | cons l ls =>
     have h0:=h.2 0 c l rfl rfl
     obtain⟨j,g,rfl,hj⟩:=h0
     have ht:HeldR sz hd en b hx ls cells:=⟨by simpa using hl,λi c x h1 h2=>h.2 (i+1) c x (by simpa using h1) (by simpa using h2)⟩
     have hg:(base++hx)[b+j]?=some (.arr g sz (l.2.map en)):=by rw[<- hb,Q9];exact hj
     have ha:(l.2.map en).all (λx=>x.all V.isD)=true:=by
      rw[qj]
      exact λel hel=>qj.2 (Qj7 D l.2 el hel)
     have hlen:(l.2.map en).length=l.2.length:=by simp
     have hfr:Ia (base++hx) (.own (b+j) g 0 l.2.length)=some (.l sz (l.2.map en)):=by
      have ht2:List.take l.2.length (l.2.map en)=l.2.map en:=qe (by omega)
      simp only[Ia,Ji,hg]
      rw[List.drop_zero,ht2,if_pos ⟨trivial,by omega,ha⟩]
     have hrow:(hd l.1++[V.own (b+j) g 0 l.2.length]).mapM (Ia (base++hx))=some (Qp4 sz hd en l):=by
      rw[List.mapM_append,D.h1]
      simp[List.mapM_cons,hfr,Qp4]
     rw[List.mapM_cons,hrow,ih ht]
     rfl
theorem Qqx (D:CellsD hd en) {b rz:Nat} {base hx:List O} {ls:List (β × List α)} {cells:List (List V)} (h:HeldR sz hd en b hx ls cells) (hb:base.length=b) :
  (if ls.length<=cells.length then Option.map (V.l rz) (List.mapM (λel=>List.mapM (Ia (base++hx)) el) (List.take ls.length cells)) else none)=some (.l rz (ls.map (Qp4 sz hd en))):=by
 have h1:=h.frz D hb
 have ht:List.take ls.length cells=cells:=qe (by rw[h.1];exact Nat.le_refl _)
 simp only[ht,h1,h.1,Nat.le_refl,if_true,Option.map_some]
end
theorem Ug {l:List Sg4} {i:Nat} (h:i<l.length):l[i]?=some (Qfx l i):=by unfold Qfx;rw[q9 h];rfl
theorem Qpd:CellsD (λ_:Unit=>([]:List V)) P2.cs:=⟨λ_ _=>rfl,by simp,λa x hx=>by simp[P2.cs]at hx;rcases hx with rfl | rfl<;>rfl⟩
abbrev Qtm (b:Nat) (hx:List O) (ps:List (List P2)) (cells:List (List V)):Prop:=HeldR 2 (λ_:Unit=>([]:List V)) P2.cs b hx (ps.map λp=>((),p)) cells
def Qid (P:Program) (f:FuncId):Prop:=∀l:List Sg4,Qjs l ->
 (¬ Q19 (egs l)->CallIs P f [Yt l] (.t [Qw [],.i .i64 12])) /\
 (Q19 (egs l)->PureC P f [Yt l] λr=>∃ps:List (List P2),(ps.flatMap Za).Perm (neE (egs l))/\ps.length<=l.length/\r=.t [Qw ps,.i .i64 0])
def Q6s (P:Program) (f:FuncId):Prop:=∀(m:Mesh) (z k:Int),CallIs P f [m.enc,.i .i64 z,.i .i64 k] (.t [rgV (Wn m z k).1,.i .i64 (Wn m z k).2])
theorem Qgj (es:List Eg):neE es=es.filter λe=>decide (e.1≠e.2):=by
 unfold neE
 congr 1
theorem Qd0 {l:List Sg4} (hl:Qjs l) {ps:List (List P2)} (h1:(ps.flatMap Za).Perm (neE (egs l))) (h2:ps.length<=l.length):PolyOk ps/\∀k,W2 (ps.flatMap Za) k=W2 (egs l) k:=by
 have hsub:∀e∈neE (egs l),e∈egs l:=λe he=>by
  rw[Qgj]at he
  exact(qv.1 he).1
 refine⟨⟨by have:=hl.1;omega,?_,λe he=>hl.2 e (hsub e (h1.mem_iff.1 he))⟩,λk=>?_⟩
 ·rw[h1.length_eq,Qgj]
  refine Nat.le_trans (j9 _ _) ?_
  simp[egs]
  exact hl.1
 ·rw[Ql9 h1,Qgj,rasR_ne]
section
variable {P:Program} (hm:P.follows .mixedOrders=true)
include hm
theorem Q4o {f fe fs fc fr:FuncId} (hf:Qa P f (L1x.c fe fs fc fr) L1x.r L1x.n) (he:Qu1 P fe) (hs:SecC P fs) (hc:Qid P fc) (hr:Qc1 P fr):Q6s P f:=by
 intro m z k
 have hec:=he k 32 1024 (by omega)
 have hsc:=hs m z
 have hso:=sec_ok m z
 have hz:Le1 (V.a [V.nil]) (rgV []):=.inr ⟨_,_,rfl,rfl,Le0.nil 2,trivial⟩
 unfold Wn
 cases hev:Xn k 32 1024 with
 | false =>
   rw[hev]at hec
   rw[if_pos rfl]
   refine CallIs.res (r:=.t [.a [.nil],.i .i64 1]) ?_ (.inr ⟨_,_,rfl,rfl,hz,Le1.refl _,trivial⟩)
   refine PureC.is (Q8 hm hf (qh rfl) ?_) rfl
   unfold L1x.c
   simp[go_sem,Mesh.enc,Mesh.cs]
   refine Q4 hec ?_
   simp[go_sem,L1x.r]
   done
 | true =>
   rw[hev]at hec
   rw[if_neg (by simp)]
   unfold secL at hsc
   generalize Y3 m z=S at *
   obtain⟨l,e⟩:=S
   simp only at hsc hso ⊢
   by_cases h0:e=0
   case neg =>
    rw[if_pos h0]
    refine CallIs.res (r:=.t [.a [.nil],.i .i64 e]) ?_ (.inr ⟨_,_,rfl,rfl,hz,Le1.refl _,trivial⟩)
    refine PureC.is (Q8 hm hf (qh rfl) ?_) rfl
    have hb:(e != 0)=true:=by simpa using h0
    unfold L1x.c
    simp[go_sem,Mesh.enc,Mesh.cs]
    refine Q4 hec ?_
    simp[go_sem]
    refine Q4 hsc ?_
    simp[go_sem,h0,hb,L1x.r]
    done
   subst h0
   rw[if_neg (by simp)]
   obtain⟨hc1,hc2⟩:=hc l hso
   by_cases hbal:Q19 (egs l)
   case neg =>
    rw[if_neg hbal]
    have hcc:=hc1 hbal
    refine CallIs.res (r:=.t [.a [.nil],.i .i64 12]) ?_ (.inr ⟨_,_,rfl,rfl,hz,Le1.refl _,trivial⟩)
    refine PureC.is (Q8 hm hf (qh rfl) ?_) rfl
    unfold L1x.c
    simp[go_sem,Mesh.enc,Mesh.cs]
    refine Q4 hec ?_
    simp[go_sem]
    refine Q4 hsc ?_
    simp[go_sem]
    refine Q4 hcc ?_
    simp[go_sem,L1x.r]
    done
   rw[if_pos hbal]
   have hcc:=hc2 hbal
   refine PureC.is (Q8 hm hf (qh rfl) ?_) rfl
   unfold L1x.c
   simp[go_sem,Mesh.enc,Mesh.cs]
   refine Q4 hec ?_
   simp[go_sem]
   refine Q4 hsc ?_
   simp[go_sem]
   refine (hcc.lift rfl _).mono ?_
   rintro r h' ⟨⟨ps,hp1,hp2,rfl⟩,rfl⟩
   obtain⟨hpo,hpr⟩:=Qd0 hso hp1 hp2
   have hrc:=hr ps k hpo
   unfold Wo at hrc
   rw[if_neg (by rw[hev];simp),hpr]at hrc
   simp[go_sem]
   refine Q4 hrc ?_
   simp[go_sem,rgV,V.cells,V.okA,L1x.r]
end
end Go.Abs
