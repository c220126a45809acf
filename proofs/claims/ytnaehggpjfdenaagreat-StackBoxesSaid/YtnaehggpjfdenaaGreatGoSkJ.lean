/- Part of the library on which the proof stands: an abstract machine, its values and its soundness against the model; or what functions of the program do to such values. -/
import Derived.Test.YtnaehggpjfdenaaGreatGoUnG
import Derived.Test.YtnaehggpjfdenaaGreatGoMapG
import Derived.Test.YtnaehggpjfdenaaGreatGoSo
import Derived.Test.YtnaehggpjfdenaaGreatGoSkB
import Derived.Test.YtnaehggpjfdenaaGreatGoRw
import Derived.Test.YtnaehggpjfdenaaGreatGoRevC
import Derived.Test.YtnaehggpjfdenaaGreatGoTpD
set_option linter.unusedVariables false
set_option linter.unusedSimpArgs false
set_option maxHeartbeats 16000000
set_option maxRecDepth 20000
namespace Go.Abs
def msV (ms:List Mesh):V:=.l 2 (ms.map Mesh.cs)
def Qp5 (P:Program) (f:FuncId):Prop:=∀(c:V) (g r:List Rw),(c=rwL g∨(c=.nil/\g=[]))->RgV g->RgB g->RgV r->RgB r->CallIs P f [.l 1 [[c],[rwL r]]] (rgV (K6 g r))
def Bc (P:Program) (f:FuncId):Prop:=∀(ms:List Mesh) (s:Sett),ms.length<=1000->CallIs P f [msV ms,s.enc] (.t [Jy (Wy ms s.pitch s.height).1,.i .i64 (Wy ms s.pitch s.height).2])
noncomputable def Uo (acc l:List (List Rw)) (j:Nat):List (List Rw):=(List.range (max acc.length j)).map λi=>if i<j then K6 (atR acc i) (atR l i) else atR acc i
theorem Kb (acc l:List (List Rw)) (j:Nat):(Uo acc l j).length=max acc.length j:=by simp[Uo]
theorem Wc {acc l:List (List Rw)} {j i:Nat} (h:i<max acc.length j):(Uo acc l j)[i]?=some (if i<j then K6 (atR acc i) (atR l i) else atR acc i):=by
 unfold Uo
 rw[qr,jk h];rfl
theorem Qii {acc l:List (List Rw)}:Uo acc l 0=acc:=by
 refine qz λi=>?_
 by_cases hi:i<acc.length
 ·rw[Wc (by omega),if_neg (by omega)]
  unfold atR
  rw[qb hi];rfl
 ·rw[qm (by rw[Kb];omega),qm (by omega)]
theorem Qmb {acc l:List (List Rw)} (ha:W2 acc):Uo acc l l.length=Q2o acc l:=by
 refine qz λi=>?_
 by_cases hi:i<max acc.length l.length
 ·rw[Wc hi,Qa4 hi]
  split
  ·rfl
  ·have e:atR l i=[]:=by unfold atR;rw[qm (by omega)];rfl
   rw[e,Qgu (Qoz ha i).1 (Qoz ha i).2]
 ·rw[qm (by rw[Kb];omega),qm (by rw[Q2n];omega)]
theorem Qma {acc l:List (List Rw)} {j:Nat} (h:acc.length<=j):Uo acc l (j+1)=Uo acc l j++[K6 (atR acc j) (atR l j)]:=by
 unfold Uo
 rw[show max acc.length (j+1)=j+1 by omega,show max acc.length j=j by omega,List.range_succ,qy]
 congr 1
 ·refine jo λi hi=>?_
  have:=j3.1 hi
  rw[if_pos (by omega),if_pos (by omega)]
 ·simp
theorem Qm9 {acc l:List (List Rw)} {j:Nat} (h:j<acc.length):Uo acc l (j+1)=(Uo acc l j).set j (K6 (atR acc j) (atR l j)):=by
 refine qz λi=>?_
 rw[List.getElem?_set]
 by_cases hi:i<acc.length
 ·rw[Wc (by omega)]
  by_cases he:j=i
  ·subst he
   rw[if_pos rfl,if_pos (show j<j+1 by omega),if_pos (show j<(Uo acc l j).length by rw[Kb];omega)]
  ·rw[if_neg he,Wc (by omega)]
   by_cases h2:i<j
   ·rw[if_pos h2,if_pos (by omega)]
   ·rw[if_neg h2,if_neg (by omega)]
 ·rw[qm (by rw[Kb];omega),if_neg (by omega),qm (by rw[Kb];omega)]
section
variable {P:Program} (hm:P.follows .mixedOrders=true)
include hm
theorem Q1a {f fu:FuncId} (hf:Q9 P f (L1x.c fu) L1x.r L1x.n) (hu:UniC P fu):Qp5 P f:=by
 intro c g r hc hg bg hr br
 have u1:=hu [] g RgV.nil hg RgB.nil bg
 rw[Qa3 hg bg]at u1
 have u2:=hu g r hg hr bg br
 have hcl:Le (.a [c]) (rgV g):=by
  rcases hc with rfl | ⟨rfl,rfl⟩
  ·exact Le.refl _
  ·exact .inl (.inr ⟨_,_,rfl,rfl,Le0.nil 2,trivial⟩)
 have hn0:Le (.a [.nil]) (rgV []):=.inl (.inr ⟨_,_,rfl,rfl,Le0.nil 2,trivial⟩)
 have w1:CallIs P fu [.a [.nil],.a [c]] (rgV g):=CallIs.lel (show LeL Le [.a [.nil],.a [c]] [rgV [],rgV g] from ⟨hn0,hcl,trivial⟩) u1
 have hcc:c.cl 3=true/\c.cl 2=true/\c.isD=true:=by
  rcases hc with rfl | ⟨rfl,rfl⟩<;>exact⟨rfl,rfl,rfl⟩
 refine PureC.is (Q8 hm hf (qj rfl) ?_) (by rcases hc with rfl | ⟨rfl,rfl⟩<;>rfl)
 unfold L1x.c
 simp[go_sem]
 obtain⟨F,hF⟩:∃F:Nat->V,∀i,F i=if i=0 then .nil else if i=1 then rwL g else rwL (K6 g r):=⟨_,λ_=>rfl⟩
 have F0:F 0=.nil:=by rw[hF];rfl
 have F1:F 1=rwL g:=by rw[hF];rfl
 have F2:F 2=rwL (K6 g r):=by rw[hF];rfl
 refine Qi (α:=Nat) (λi=>i<=2)
  (λi=>⟨[(2,.p 0 1 0 0),(3,.p 1 1 0 0),(6,.l 1 [[c],[rwL r]]),(7,.i .i64 2),(8,.i .i64 i)],[.arr 1 1 [[.nil]],.arr 1 1 [[F i]]]⟩)
  (λi=>2-i) 0 (by omega) ?_ ?_
 ·simp[go_sem,F0]
 intro i hi
 rcases (show i=0∨i=1∨i=2 by omega) with rfl | rfl | rfl
 ·rw[F0]
  simp[go_sem]
  refine Q5 w1 ?_
  simp[go_sem,rgV,V.cells,V.okA]
  exact⟨1,by omega,by omega,rfl,by rw[F1];rfl,by rw[F1];rfl⟩
 ·rw[F1]
  simp[go_sem]
  refine Q5 u2 ?_
  simp[go_sem,rgV,V.cells,V.okA]
  exact⟨2,by omega,by omega,rfl,by rw[F2];rfl,by rw[F2];rfl⟩
 ·rw[F2]
  simp[go_sem,rwL,rgV,L1x.r]
end
theorem Q7j (s:Sett) (n:Nat):∀x∈s.cs,x.cl n=true:=λx hx=>by
 simp only[Sett.cs,List.mem_cons,List.not_mem_nil,or_false]at hx
 rcases hx with rfl | rfl | rfl | rfl | rfl | rfl | rfl | rfl | rfl | rfl | rfl | rfl | rfl | rfl | rfl | rfl | rfl | rfl | rfl | rfl<;>rfl
theorem Qjy {k h:Int} {ms:List Mesh} {i:Nat} {m:Mesh} (hq:ms[i]?=some m) {acc:List (List Rw)}:Q4e k h acc (ms.drop i)=if (Jf m k h).2≠0 then ([],(Jf m k h).2) else Q4e k h (Q2o acc (Jf m k h).1) (ms.drop (i+1)):=by
 obtain⟨hlt,hq'⟩:=qa.1 hq
 rw[List.drop_eq_getElem_cons hlt,hq']
 rfl
section
variable {P:Program} (hm:P.follows .mixedOrders=true)
include hm
theorem Q1b {f fe fp fu:FuncId} (hf:Q9 P f (L1u.c fe fp fu) L1u.r L1u.n) (he:Qcj P fe) (hp:Qf8 P fp) (hu:Qp5 P fu):Bc P f:=by
 intro ms s hml
 have e1:=he s.pitch 32 1024 (by omega)
 have e2:=he s.height 4 1024 (by omega)
 have hnil:∀e:Int,Le (.t [.nil,.i .i64 e]) (.t [Jy [],.i .i64 e]):=λe=>.inr ⟨_,_,rfl,rfl,.inl (Le0.nil 1),Le1.refl _,trivial⟩
 unfold Wy
 cases hv1:Zf s.pitch 32 1024 with
 | false =>
   rw[hv1]at e1
   rw[if_pos (.inl rfl)]
   refine CallIs.res (r:=.t [.nil,.i .i64 1]) ?_ (hnil _)
   refine PureC.is (Q8 hm hf (qj rfl) ?_) rfl
   unfold L1u.c
   simp[go_sem,msV,Sett.enc,Sett.cs]
   refine Q5 e1 ?_
   simp[go_sem,L1u.r]
   done
 | true =>
 cases hv2:Zf s.height 4 1024 with
 | false =>
   rw[hv1]at e1
   rw[hv2]at e2
   rw[if_pos (.inr rfl)]
   refine CallIs.res (r:=.t [.nil,.i .i64 1]) ?_ (hnil _)
   refine PureC.is (Q8 hm hf (qj rfl) ?_) rfl
   unfold L1u.c
   simp[go_sem,msV,Sett.enc,Sett.cs]
   refine Q5 e1 ?_
   simp[go_sem]
   refine Q5 e2 ?_
   simp[go_sem,L1u.r]
   done
 | true =>
 rw[hv1]at e1
 rw[hv2]at e2
 rw[if_neg (by simp)]
 obtain⟨R,hR⟩:∃R,R=Q4e s.pitch s.height [] ms:=⟨_,rfl⟩
 rw[<- hR]
 refine CallIs.res (r:=.t [if R.2≠0 then .nil else Jy R.1,.i .i64 R.2]) ?_ (by
  by_cases h1:R.2=0
  ·rw[if_neg (by simp[h1])]
   exact Le.refl _
  ·rw[if_pos h1]
   have h2:R.1=[]:=by rw[hR]at h1 ⊢;exact Qcd h1
   rw[h2]
   exact hnil _)
 refine PureC.is (Q8 hm hf (qj rfl) ?_) rfl
 unfold L1u.c
 simp[go_sem,msV,Sett.enc,Sett.cs]
 refine Q5 e1 ?_
 simp[go_sem]
 refine Q5 e2 ?_
 simp[go_sem]
 refine Z0 [.t 6 1] (α:=Nat × Nat × List (List Rw)) (λp=>p.1<=ms.length/\Q4e s.pitch s.height p.2.2 (ms.drop p.1)=R/\W2 p.2.2/\p.2.2.length<=256)
  (λp=>⟨[(3,.p 0 1 0 0),(6,.own 1 (p.2.1+1) 0 p.2.2.length),(23,msV ms),(24,.i .i64 ms.length),(25,.i .i64 p.1)],[.arr 1 20 [s.cs],.arr (p.2.1+1) 1 (p.2.2.map rgE)]⟩)
  (λp=>ms.length-p.1) (0,0,[]) ⟨Nat.zero_le _,hR.symm,by simp[W2],by simp⟩ ?_ ?_
 ·simp[go_sem,msV,Sett.cs]
 rintro⟨i,g,acc⟩ ⟨hi,hacc,hav,hal⟩
 simp only at hi hacc hav hal ⊢
 by_cases hil:i=ms.length
 ·subst hil
  rw[List.drop_length]at hacc
  have hR2:R=(acc,0):=hacc.symm
  have ht:List.take acc.length (acc.map rgE)=acc.map rgE:=qg (by simp)
  rw[hR2]
  simp (disch:=omega) [go_sem,msV,ht,Xf,L1u.r]
  rw[if_pos (Qfo acc)];rfl
 have hlt:i<ms.length:=by omega
 have hq:ms[i]?=some ms[i]:=qb hlt
 rw[Qjy hq]at hacc
 have hpc:=hp ms[i] s
 have hpv:=partR_v ms[i] s.pitch s.height
 generalize ms[i]=m at *
 obtain⟨_,hq'⟩:=qa.1 hq
 generalize Jf m s.pitch s.height=T at *
 obtain⟨l,e⟩:=T
 simp only at hacc hpc hpv
 simp only[Mesh.enc,Mesh.cs,Sett.enc,Sett.cs]at hpc
 simp (disch:=omega) [go_sem,msV,hlt,hq,hq',Mesh.cs,Sett.cs,Q3]
 refine Q5 hpc ?_
 by_cases he0:e=0
 case neg =>
  have heb:(e != 0)=true:=by simpa using he0
  rw[if_pos he0]at hacc
  rw[<- hacc]
  simp (disch:=omega) [go_sem,he0,heb,L1u.r]
 subst he0
 rw[if_neg (by simp)]at hacc
 obtain⟨hlv,hll⟩:=hpv
 simp (disch:=omega) [go_sem,Xf,Q3]
 refine Qi (α:=Nat × Nat) (λp=>p.1<=l.length)
  (λp=>⟨[(3,.p 0 1 0 0),(6,.own 1 (p.2+1) 0 (Uo acc l p.1).length),(23,msV ms),(24,.i .i64 ms.length),(25,.i .i64 i),(38,Jy l),(39,.i .i64 l.length),(40,.i .i64 p.1)],[.arr 1 20 [s.cs],.arr (p.2+1) 1 ((Uo acc l p.1).map rgE)]⟩)
  (λp=>l.length-p.1) (0,g) (by simp) ?_ ?_
 ·simp[go_sem,msV,Qii,Xf]
  exact⟨⟨rfl,Q7j s 2⟩,Q7t _ _⟩
 rintro⟨j,g2⟩ hj
 simp only at hj ⊢
 have hml2:=Kb acc l j
 by_cases hjl:j=l.length
 ·subst hjl
  rw[Qmb hav]
  have hul:=Q2n acc l
  simp (disch:=omega) [go_sem,Xf,Q3]
  exact⟨i+1,g2,Q2o acc l,⟨by omega,hacc,uniL_v _ _,by omega⟩,by omega,⟨⟨rfl,rfl⟩,rfl,by omega⟩,rfl,⟨rfl,rfl⟩,Q7t _ _⟩
 have hjt:j<l.length:=by omega
 have hu1:l[j]?=some l[j]:=qb hjt
 have hrv:=hlv _ (qe hu1)
 have hatl:atR l j=l[j]:=by unfold atR;rw[hu1];rfl
 have hav2:=Qoz hav j
 have happ:=Qma (acc:=acc) (l:=l) (j:=j)
 have hset:=Qm9 (acc:=acc) (l:=l) (j:=j)
 have hget:=Wc (acc:=acc) (l:=l) (j:=j) (i:=j)
 rw[hatl]at happ hset
 generalize l[j]=r at *
 obtain⟨_,hu1'⟩:=qa.1 hu1
 have hMj:(Uo acc l j).length<=600:=by rw[hml2];omega
 generalize Uo acc l j=M at *
 have htk:List.take M.length (M.map rgE)=M.map rgE:=qg (by simp)
 by_cases hjm:acc.length<=j
 ·have hMl:M.length=j:=by omega
  have hM':=happ hjm
  have hat0:atR acc j=[]:=by unfold atR;rw[qm hjm];rfl
  rw[hat0]at hM' hav2
  have huc:=hu .nil [] r (.inr ⟨rfl,rfl⟩) RgV.nil RgB.nil hrv.1 hrv.2
  subst hMl
  simp (disch:=omega) [go_sem,Xf,hjt,hu1,hu1',rgE,htk,Qai,Qah,Q3]
  refine⟨⟨by omega,by omega⟩,?_,Q74 (id:=4) (o:=.arr 1 1 [[.nil],[rwL r]]) (o':=.dead) rfl (λh2 hh=>Y3 (vs:=[.l 1 [[.nil],[rwL r]]]) (by simp[Yr,frz,Yx,hh,rwL,V.isD]) huc ⟨rfl,rfl⟩) (.inr (by simp)) (by rfl) ?_⟩
  ·rfl
  simp (disch:=omega) [go_sem,rgV,V.cells,V.okA,Qai,Qah,Q3]
  exact⟨M.length+1,by omega,by omega,g2+1,⟨⟨rfl,by rw[hM'];simp⟩,.inr rfl,by omega⟩,Q7j s 2,⟨rfl,by rw[hM'];simp[rgE,rwL]⟩,Q7t _ _⟩
 ·have hMl:M.length=acc.length:=by omega
  have hM':=hset (by omega)
  have hg:=hget (by omega)
  rw[if_neg (by omega)]at hg
  have huc:=hu (rwL (atR acc j)) (atR acc j) r (.inl rfl) hav2.1 hav2.2 hrv.1 hrv.2
  have hjn:((j:Int) == acc.length)=false:=by simp;omega
  have hjn2:¬ (j:Int)=acc.length:=by omega
  have hjt2:j<acc.length:=by omega
  have hjt3:j<M.length:=by omega
  obtain⟨_,hg'⟩:=qa.1 hg
  simp (disch:=omega) [go_sem,Xf,hjt,hu1,hu1',rgE,hMl,hjn,hjn2,hjt2,hjt3,hg,hg',Q3]
  refine⟨⟨rfl,rfl⟩,Q74 (id:=3) (o:=.arr 1 1 [[rwL (atR acc j)],[rwL r]]) (o':=.dead) rfl (λh2 hh=>Y3 (vs:=[.l 1 [[rwL (atR acc j)],[rwL r]]]) (by simp[Yr,frz,Yx,hh,rwL,V.isD]) huc ⟨rfl,rfl⟩) (.inr (by simp)) (by rfl) ?_⟩
  simp (disch:=omega) [go_sem,rgV,V.cells,V.okA,rgE,hMl,hjt2,hjt3,hg,hg',Q3]
  exact⟨j+1,by omega,by omega,g2,⟨⟨rfl,by rw[hM'];simp[hMl]⟩,.inr rfl,by omega⟩,Q7j s 2,⟨rfl,by rw[hM',List.map_set];rfl⟩,λ_ _=>rfl⟩
end
def Qe4 (U:List Int) (x:Int):List Int:=if x∈U then U else U++[x]
def Qe5 (U:List Int) (t:T3):List Int:=Qe4 (Qe4 (Qe4 U t.a) t.b) t.c
def K4 (ts:List T3):List Int:=ts.foldl Qe5 []
theorem Qct (ts:List T3) (t:T3):K4 (ts++[t])=Qe5 (K4 ts) t:=by simp[K4]
theorem Q8b {U:List Int} (h:U.Nodup) (x:Int):(Qe4 U x).Nodup/\(∀v,v∈Qe4 U x↔v∈U∨v=x)/\(Qe4 U x).length<=U.length+1:=by
 unfold Qe4
 split
 ·rename_i hx
  exact⟨h,λv=>⟨.inl,λhh=>hh.elim id (λe=>e ▸ hx)⟩,by omega⟩
 ·rename_i hx
  refine⟨?_,λv=>by simp,by simp⟩
  rw[List.nodup_append]
  exact⟨h,by simp,λa ha b hb=>by simp at hb;subst hb;rintro rfl;exact hx ha⟩
theorem insT_ok {U:List Int} (h:U.Nodup) (t:T3):(Qe5 U t).Nodup/\(∀v,v∈Qe5 U t↔v∈U∨v=t.a∨v=t.b∨v=t.c)/\(Qe5 U t).length<=U.length+3:=by
 obtain⟨a1,a2,a3⟩:=Q8b h t.a
 obtain⟨b1,b2,b3⟩:=Q8b a1 t.b
 obtain⟨c1,c2,c3⟩:=Q8b b1 t.c
 refine⟨c1,λv=>?_,by unfold Qe5;omega⟩
 unfold Qe5
 rw[c2,b2,a2,or_assoc,or_assoc]
theorem Qkl (ts:List T3):(K4 ts).Nodup/\(∀v,v∈K4 ts↔∃t∈ts,v=t.a∨v=t.b∨v=t.c)/\(K4 ts).length<=3*ts.length:=by
 have key:∀k,k<=ts.length->(K4 (ts.take k)).Nodup/\(∀v,v∈K4 (ts.take k)↔∃t∈ts.take k,v=t.a∨v=t.b∨v=t.c)/\(K4 (ts.take k)).length<=3*k:=by
  intro k
  induction k with
  | zero=>intro _;simp[K4]
  | succ k ih =>
    intro hk
    obtain⟨h1,h2,h3⟩:=ih (by omega)
    have hp:ts[k]?=some ts[k]:=qb (by omega)
    rw[Qc hp,Qct]
    obtain⟨i1,i2,i3⟩:=insT_ok h1 ts[k]
    refine⟨i1,λv=>?_,by omega⟩
    rw[i2,h2]
    constructor
    ·rintro (⟨t,ht,hv⟩ | hv)
     ·exact⟨t,qi.2 (.inl ht),hv⟩
     ·exact⟨ts[k],qi.2 (.inr (by simp)),hv⟩
    ·rintro⟨t,ht,hv⟩
     rcases qi.1 ht with h | h
     ·exact .inl ⟨t,h,hv⟩
     ·simp at h;subst h;exact .inr hv
 have:=key ts.length (Nat.le_refl _)
 rwa [qk]at this
def Mesh.euler (m:Mesh):Int:=if m.check=0 then ((K4 m.tris).length:Int)-m.edgesL.length+m.tris.length else 0
theorem Qax {l k:List Int} (hl:l.Nodup) (hk:k.Nodup) (h:∀v,v∈l↔v∈k):l.Perm k:=by
 rw[List.perm_iff_count]
 intro v
 have c:∀{l:List Int},l.Nodup->l.count v=if v∈l then 1 else 0:=λ{l} hl=>by
  by_cases he:v∈l
  ·rw[if_pos he]
   have h1:=List.count_pos_iff.2 he
   have h2:=List.nodup_iff_count.1 hl v
   omega
  ·rw[if_neg he];exact List.count_eq_zero.2 he
 rw[c hl,c hk]
 by_cases hv:v∈l
 ·rw[if_pos hv,if_pos ((h v).1 hv)]
 ·rw[if_neg hv,if_neg (λhh=>hv ((h v).2 hh))]
structure Sphere (T:List T3) (n:Nat):Prop where
 pos:0<T.length
 own:∃f:P2->Nat,∀p,p<T.length->∀e∈Q7 (tAt T p),f e=p
 clo:∀p,p<T.length->∀e∈Q7 (tAt T p),∃q,q<T.length/\e.rev∈Q7 (tAt T q)
 one:∀i,i<T.length->Conn T 0 i
 ok:W6 n T=true
 flat:∀t∈T,t.a≠t.b/\t.b≠t.c/\t.c≠t.a
 used:∀v:Nat,v<n->∃t∈T,(v:Int)=t.a∨(v:Int)=t.b∨(v:Int)=t.c
 num:T.length+4=2*n
theorem Sphere.coh {T:List T3} {n:Nat} (h:Sphere T n):Coh T:=by
 obtain⟨f,hf⟩:=h.own
 intro i j e hi hj h1 h2
 rw[<- hf i hi e h1,hf j hj e h2]
theorem Sphere.Clo {T:List T3} {n:Nat} (h:Sphere T n):Go.Abs.Clo T:=by
 intro e he
 obtain⟨p,hp,h1⟩:=mem_all.1 he
 obtain⟨q,hq,h2⟩:=h.clo p hp e h1
 exact mem_all.2 ⟨q,hq,h2⟩
theorem Q3b:∀n,0<n->((List.range n).filter λi=>decide (i=0)).length=1
 | 0,h=>by omega
 | 1,_=>by simp
 | n+2,_=>by
   rw[List.range_succ,List.filter_append,j5,Q3b (n+1) (by omega)]
   simp
theorem Sphere.shells {m:Mesh} {n:Nat} (h:Sphere m.tris n) (hz:m.check=0):m.shells.length=1:=by
 obtain⟨L,hL⟩:=Q88 m.tris
 have hR:m.shells=Xv L m.tris.length:=by unfold Mesh.shells;rw[if_pos hz,Iw hL,hL.len]
 have h0:L[0]?=some 0:=by
  have h1:L[0]?=some (L[0]'(by rw[hL.len];exact h.pos)):=qb _
  obtain⟨a,b,_⟩:=hL.con 0 _ h1
  rw[h1];congr 1;omega
 rw[hR]
 unfold Xv
 rw[List.length_map]
 have:(List.range m.tris.length).filter (λ(i:Nat)=>decide (L[i]?=some (i:Int)))=(List.range m.tris.length).filter λi=>decide (i=0):=by
  refine List.filter_congr λi hi=>?_
  rw[decide_eq_decide,<- hL.conn (h.one i (j3.1 hi)),h0]
  constructor
  ·intro hh;have:=Option.some.inj hh;omega
  ·rintro rfl;rfl
 rw[this]
 exact Q3b _ h.pos
theorem Q8v {t:T3} (h:t.a≠t.b/\t.b≠t.c/\t.c≠t.a):Q7 t=K2 t:=by
 have h2:Q7 t=(K2 t).filter λe=>decide (e.x≠e.y):=rfl
 rw[h2]
 unfold K2
 simp[h.1,h.2.1,h.2.2]
theorem B9:∀{T:List T3},(∀t∈T,t.a≠t.b/\t.b≠t.c/\t.c≠t.a)->(Qb T).length=3*T.length
 | [],_=>rfl
 | t::T,h=>by
   have h0:Qb (t::T)=Q7 t++Qb T:=rfl
   rw[h0,j5,B9 (λx hx=>h x (by simp[hx])),Q8v (h t (by simp)),List.length_cons]
   simp only[K2,List.length_cons,List.length_nil];omega
theorem Qjl {l:List P2} (h:asc l):l.Nodup:=by
 unfold asc at h
 exact h.imp λ{a b} hab=>by rintro rfl;exact P2.lt_irrefl a hab
theorem Sphere.edges {m:Mesh} {n:Nat} (h:Sphere m.tris n) (hz:m.check=0):2*m.edgesL.length=3*m.tris.length:=by
 rw[<- B9 h.flat]
 have hnd:=coh_iff.2 h.coh
 have hcl:∀e∈Qb m.tris,e.rev∈Qb m.tris:=h.Clo
 have hne:∀e∈Qb m.tris,e.x≠e.y:=λe he=>Qew he
 have hE:m.edgesL=Ws ((Qb m.tris).map P2.und):=by unfold Mesh.edgesL;rw[if_pos hz]
 rw[hE]
 generalize Qb m.tris=A at *
 have hB1:(Ws (A.map P2.und)).length=(A.filter λe=>decide (e.x<e.y)).length:=by
  have hm:∀a,a∈Ws (A.map P2.und)↔a∈A.filter λe=>decide (e.x<e.y):=λa=>by
   rw[U0,qq,qw,decide_eq_true_eq]
   constructor
   ·rintro⟨e,he,rfl⟩
    by_cases hlt:e.x<e.y
    ·rw[Qko hlt];exact⟨he,hlt⟩
    ·rw[und_gt hlt]
     have:=hne e he
     exact⟨hcl e he,by show e.y<e.x;omega⟩
   ·rintro⟨he,hlt⟩
    exact⟨a,he,Qko hlt⟩
  refine Nat.le_antisymm (J6 (Qjl (Ud _)) λa ha=>(hm a).1 ha) (J6 (hnd.filter _) λa ha=>(hm a).2 ha)
 have hB2:(A.filter λe=>decide (e.x<e.y)).length=(A.filter λe=>!decide (e.x<e.y)).length:=by
  have hinj:∀l:List P2,l.Nodup->(l.map P2.rev).Nodup:=λl hl=>by
   rw[List.nodup_iff_pairwise_ne,jf]
   exact hl.imp λ{a b} hab hh=>hab (by have:=congrArg P2.rev hh;exact this)
  refine Nat.le_antisymm ?_ ?_
  ·have:=J6 (hinj _ (hnd.filter λe=>decide (e.x<e.y))) (B:=A.filter λe=>!decide (e.x<e.y)) λa ha=>by
    obtain⟨b,hb,rfl⟩:=qq.1 ha
    obtain⟨h1,h2⟩:=qw.1 hb
    rw[decide_eq_true_eq]at h2
    refine qw.2 ⟨hcl b h1,?_⟩
    have:¬ b.rev.x<b.rev.y:=by show ¬ b.y<b.x;omega
    simp[this]
   simpa using this
  ·have:=J6 (hinj _ (hnd.filter λe=>!decide (e.x<e.y))) (B:=A.filter λe=>decide (e.x<e.y)) λa ha=>by
    obtain⟨b,hb,rfl⟩:=qq.1 ha
    obtain⟨h1,h2⟩:=qw.1 hb
    have h3:¬ b.x<b.y:=by simpa using h2
    have h4:=hne b h1
    refine qw.2 ⟨hcl b h1,?_⟩
    have:b.rev.x<b.rev.y:=by show b.y<b.x;omega
    simpa using this
   simpa using this
 have hsum:A.length=(A.filter λe=>decide (e.x<e.y)).length+(A.filter λe=>!decide (e.x<e.y)).length:=by
  generalize A=l
  induction l with
  | nil=>rfl
  | cons a l ih =>
    rw[List.filter_cons,List.filter_cons,List.length_cons]
    by_cases hh:a.x<a.y<;>simp[hh]<;>omega
 omega
theorem Sphere.euler {m:Mesh} (h:Sphere m.tris m.verts.length) (hz:m.check=0):m.euler=2:=by
 have hE:=h.edges hz
 obtain⟨u1,u2,_⟩:=Qkl m.tris
 have hU:(K4 m.tris).length=m.verts.length:=by
  have hp:(K4 m.tris).Perm ((List.range m.verts.length).map λ(j:Nat)=>(j:Int)):=by
   refine Qax u1 ?_ λv=>?_
   ·rw[List.nodup_iff_pairwise_ne,jf]
    have h0:(List.range m.verts.length).Nodup:=List.nodup_range
    rw[List.nodup_iff_pairwise_ne]at h0
    exact h0.imp λ{a b:Nat} (h:a≠b) (hh:(a:Int)=(b:Int))=>h (by omega)
   ·rw[u2,qq]
    constructor
    ·rintro⟨t,ht,hv⟩
     obtain⟨a1,a2,b1,b2,c1,c2⟩:=T3.ok_iff.1 (ql.1 h.ok t ht)
     exact⟨v.toNat,j3.2 (by omega),by omega⟩
    ·rintro⟨j,hj,rfl⟩
     exact h.used j (j3.1 hj)
  have:=hp.length_eq
  simpa using this
 have hn:=h.num
 unfold Mesh.euler
 rw[if_pos hz,hU]
 omega
theorem Sphere.all {m:Mesh} (h:Sphere m.tris m.verts.length) (hz:m.check=0):m.closed=true/\m.coh=true/\m.shells.length=1/\m.euler=2 :=
 ⟨Qep hz h.coh h.Clo,by unfold Mesh.coh;rw[hz,cohB_iff.2 h.coh];rfl,h.shells hz,h.euler hz⟩
def boxOwn (e:P2):Nat:=((List.range 12).find? λp=>decide (e∈Q7 (tAt Qh p))).getD 0
theorem Yt {i j:Nat} (h:((decide (i<12) && decide (j<12)) && (Q7 (tAt Qh i)).any λa=>(Q7 (tAt Qh j)).any λb=>decide (a.und=b.und))=true):adjI Qh i j:=by
 simp only[Bool.and_eq_true,decide_eq_true_eq,List.any_eq_true]at h
 obtain⟨⟨h1,h2⟩,a,ha,b,hb,hab⟩:=h
 exact Qp2 h1 h2 ha hb hab
theorem box_sphere:Sphere Qh 8 where
 pos:=by decide
 own:=⟨boxOwn,by decide⟩
 clo:=by decide
 one:=by
  have c0:Conn Qh 0 0:=.refl (by decide)
  have c1:Conn Qh 0 1:=c0.tail (Yt (by decide))
  have c4:Conn Qh 0 4:=c1.tail (Yt (by decide))
  have c5:Conn Qh 0 5:=c4.tail (Yt (by decide))
  have c2:Conn Qh 0 2:=c5.tail (Yt (by decide))
  have c3:Conn Qh 0 3:=c2.tail (Yt (by decide))
  have c6:Conn Qh 0 6:=c3.tail (Yt (by decide))
  have c7:Conn Qh 0 7:=c6.tail (Yt (by decide))
  have c8:Conn Qh 0 8:=c5.tail (Yt (by decide))
  have c9:Conn Qh 0 9:=c8.tail (Yt (by decide))
  have c10:Conn Qh 0 10:=c7.tail (Yt (by decide))
  have c11:Conn Qh 0 11:=c10.tail (Yt (by decide))
  intro i hi
  have hi:i<12:=hi
  match i,hi with
  | 0,_=>exact c0
  | 1,_=>exact c1
  | 2,_=>exact c2
  | 3,_=>exact c3
  | 4,_=>exact c4
  | 5,_=>exact c5
  | 6,_=>exact c6
  | 7,_=>exact c7
  | 8,_=>exact c8
  | 9,_=>exact c9
  | 10,_=>exact c10
  | 11,_=>exact c11
 ok:=by decide
 flat:=by decide
 used:=by decide
 num:=by decide
theorem Qfg (p s:V3):Yz (Qa p s) Qh=6*s.x*s.y*s.z:=by
 have h:∀i:Nat,i<8->vAt (Qa p s) (i:Int)=(Qa p s).getD i ⟨0,0,0⟩:=λi _=>by
  unfold vAt;rw[Int.toNat_natCast,List.getD_eq_getElem?_getD]
 have h0:vAt (Qa p s) 0=⟨p.x,p.y,p.z⟩:=h 0 (by omega)
 have h1:vAt (Qa p s) 1=⟨p.x+s.x,p.y,p.z⟩:=h 1 (by omega)
 have h2:vAt (Qa p s) 2=⟨p.x,p.y+s.y,p.z⟩:=h 2 (by omega)
 have h3:vAt (Qa p s) 3=⟨p.x+s.x,p.y+s.y,p.z⟩:=h 3 (by omega)
 have h4:vAt (Qa p s) 4=⟨p.x,p.y,p.z+s.z⟩:=h 4 (by omega)
 have h5:vAt (Qa p s) 5=⟨p.x+s.x,p.y,p.z+s.z⟩:=h 5 (by omega)
 have h6:vAt (Qa p s) 6=⟨p.x,p.y+s.y,p.z+s.z⟩:=h 6 (by omega)
 have h7:vAt (Qa p s) 7=⟨p.x+s.x,p.y+s.y,p.z+s.z⟩:=h 7 (by omega)
 simp only[Yz,Qh,List.map_cons,List.map_nil,List.sum_cons,List.sum_nil,Q9z,h0,h1,h2,h3,h4,h5,h6,h7,Qbx,Qok,crs]
 grind
def cr (p q:P2):Int:=p.x*q.y-p.y*q.x
structure SoundM (m:Mesh) (v:Int):Prop where
 a:m.closed=true
 b:m.coh=true
 c:m.shells.length=1
 d:m.euler=2
 e:m.vol6=v
 f:0<v
theorem Ql4 {m:Mesh} {v:Int} (hv:Ja m.verts=true) (h:Sphere m.tris m.verts.length) (hl:m.verts.length<=200) (he:Yz m.verts m.tris=v) (hp:0<v):SoundM m v:=by
 have hn:=h.num
 have hz:m.check=0:=Mesh.check_zero.2 ⟨by omega,by omega,hv,h.ok⟩
 obtain⟨a,b,c,d⟩:=h.all hz
 exact⟨a,b,c,d,by unfold Mesh.vol6;rw[if_pos hz,he],hp⟩
theorem Q6y {p s:V3} (h1:1<=s.x) (h2:1<=s.y) (h3:1<=s.z) (hp:p.valid=true) (hs:(p.add s).valid=true):SoundM ⟨Qa p s,Qh⟩ (6*s.x*s.y*s.z):=by
 have q1:=V3.valid_iff.1 hp
 have q2:=V3.valid_iff.1 hs
 simp only[V3.add]at q2
 refine Ql4 ?_ box_sphere (by simp[Qa]) (Qfg p s) ?_
 ·simp only[Ja,Qa,List.all_cons,List.all_nil,Bool.and_true,Bool.and_eq_true]
  refine⟨?_,?_,?_,?_,?_,?_,?_,?_⟩<;>rw[V3.valid_iff]<;>simp only<;>omega
 ·have a1:=Int.mul_pos (show (0:Int)<6*s.x by omega) (show (0:Int)<s.y by omega)
  exact Int.mul_pos a1 (by omega)
def upAt (m:Mesh) (z:Int) (e:P2):Option (Int × Int):=point (m.v e.x) (m.v e.y) z
theorem Qfi {m:Mesh} {z:Int} {e:P2} {p:Int × Int} (h:upAt m z e=some p):e.x≠e.y:=by
 intro he
 unfold upAt point at h
 rw[he]at h
 split at h
 ·rename_i hh;omega
 ·simp at h
theorem Uy {t:T3} {q:P2->Bool} (hq:∀e,q e=true->e.x≠e.y):(Q7 t).countP q=(K2 t).countP q:=by
 unfold Q7 Zn
 rw[List.countP_filter,qg (by simp[K2])]
 refine List.countP_congr λe _=>?_
 have:=hq e
 by_cases h:q e=true
 ·simp[h,this h]
 ·simp[h]
theorem Qel {a b c:V3} {z:Int} (ha:a.valid=true) (hb:b.valid=true) (hc:c.valid=true) (p:Int × Int) :
  ([Q5t z a b c].filter (·.found)).countP (λs=>decide (s.b=p))=[point a b z,point b c z,point c a z].countP (λo=>decide (o=some p)) /\
  ([Q5t z a b c].filter (·.found)).countP (λs=>decide (s.a=p))=[point b a z,point c b z,point a c z].countP (λo=>decide (o=some p)):=by
 by_cases h1:a.z<=z<;>by_cases h2:b.z<=z<;>by_cases h3:c.z<=z <;>
  simp[Q5t,Jl,Sg4.init,Sg4.step,point,ha,hb,hc,h1,h2,h3,Int.not_lt.2,Int.not_le.1,show (z<a.z)=¬ (a.z<=z) by simp,show (z<b.z)=¬ (b.z<=z) by simp,show (z<c.z)=¬ (c.z<=z) by simp,List.countP_cons]
theorem P2.rev_rev (e:P2):e.rev.rev=e:=rfl
theorem Q31 {m:Mesh} {z:Int} (hv:Ja m.verts=true) (p:Int × Int):∀ts:List T3,W6 m.verts.length ts=true ->
  (Zv m z ts).countP (λs=>decide (s.b=p))=(Qb ts).countP (λe=>decide (upAt m z e=some p)) /\
  (Zv m z ts).countP (λs=>decide (s.a=p))=(Qb ts).countP (λe=>decide (upAt m z e.rev=some p))
 | [],_=>⟨rfl,rfl⟩
 | t::ts,h=>by
   simp only[W6,List.all_cons,Bool.and_eq_true]at h
   have ih:=Q31 (z:=z) hv p ts h.2
   obtain⟨_,h1,_,h2,_,h3⟩:=T3.ok_iff.1 h.1
   have hs:Zv m z (t::ts)=[Jx m z t].filter (·.found)++Zv m z ts:=by
    simp only[Zv,List.map_cons,List.filter_cons,List.filter_nil]
    split<;>rfl
   have ha:Qb (t::ts)=Q7 t++Qb ts:=rfl
   have hc:=Qel (z:=z) (Mesh.v_valid hv h1) (Mesh.v_valid hv h2) (Mesh.v_valid hv h3) p
   rw[hs,ha,List.countP_append,List.countP_append,List.countP_append,List.countP_append,ih.1,ih.2,
    Uy (λe he=>Qfi (of_decide_eq_true he)),Uy (λe he=>λhh=>Qfi (of_decide_eq_true he) hh.symm)]
   unfold Jx
   rw[hc.1,hc.2]
   exact⟨rfl,rfl⟩
theorem Q8y {m:Mesh} (h:m.closed=true) (e:P2):(Qb m.tris).count e=(Qb m.tris).count e.rev:=by
 simp only[Mesh.closed,Bool.and_eq_true,decide_eq_true_eq]at h
 obtain⟨hz,hb⟩:=h
 have key:∀e:P2,(Qb m.tris).count e<=(Qb m.tris).count e.rev:=by
  intro e
  by_cases he:e∈Qb m.tris
  ·refine j9 λhlt=>?_
   have:e∈m.border:=mem_border.2 ⟨hz,he,by simp only[Mesh.use,hz,if_true];omega⟩
   rw[hb]at this;simp at this
  ·rw[List.count_eq_zero.2 he];omega
 have h1:=key e
 have h2:=key e.rev
 rw[P2.rev_rev]at h2
 omega
theorem Qc0 {m:Mesh} (h:m.closed=true):(Qb m.tris).Perm ((Qb m.tris).map P2.rev):=by
 rw[List.perm_iff_count]
 intro e
 rw[Q8y h e,List.count,List.count,List.countP_map]
 refine List.countP_congr λx _=>?_
 simp only[Function.comp,beq_iff_eq]
 constructor
 ·rintro rfl;rfl
 ·rintro rfl;rfl
theorem Q4z {m:Mesh} {z:Int} (h:m.closed=true) (p:Int × Int) :
  (Zr m z).1.countP (λs=>decide (s.a=p))=(Zr m z).1.countP (λs=>decide (s.b=p)):=by
 have hz:m.check=0:=by
  simp only[Mesh.closed,Bool.and_eq_true,decide_eq_true_eq]at h;exact h.1
 obtain⟨z1,z2,z3,z4⟩:=Mesh.check_zero.1 hz
 unfold Zr
 rw[if_pos hz]
 split
 ·rfl
 ·have hc:=Q31 (z:=z) z3 p m.tris z4
  simp only
  rw[hc.1,hc.2,(Qc0 h).countP_eq,List.countP_map]
  rfl
theorem Qlv {m:Mesh} {n:Nat} (h:Sphere m.tris n) (hz:m.check=0) {sh:List Int} (hs:sh∈m.shells):Zj m.tris sh=m.tris:=by
 obtain⟨L,hL⟩:=Q88 m.tris
 have hR:m.shells=Xv L m.tris.length:=by unfold Mesh.shells;rw[if_pos hz,Iw hL,hL.len]
 rw[hR]at hs
 obtain⟨i,hi,hLi,rfl⟩:=shsK_mem.1 hs
 have hall:∀j,j<m.tris.length->L[j]?=some (i:Int):=λj hj=>by
  rw[<- hL.conn (h.one j hj),hL.conn (h.one i hi)];exact hLi
 have hsh:shK L i L.length=(List.range m.tris.length).map λ(j:Nat)=>(j:Int):=by
  unfold shK
  rw[hL.len]
  congr 1
  refine List.filter_eq_self.2 λj hj=>?_
  simpa using hall j (j3.1 hj)
 rw[hsh]
 unfold Zj
 rw[List.map_map]
 refine qz λj=>?_
 rw[qr]
 by_cases hj:j<m.tris.length
 ·rw[jk hj,Zo hj];rfl
 ·rw[qm (by simpa using hj),qm (by simpa using hj)];rfl
theorem box_ok {p s:V3} (h1:1<=s.x) (h2:1<=s.y) (h3:1<=s.z) (hp:p.valid=true) (hs:(p.add s).valid=true):(Mesh.mk (Qa p s) Qh).check=0/\Wp ⟨Qa p s,Qh⟩=0:=by
 have q1:=V3.valid_iff.1 hp
 have q2:=V3.valid_iff.1 hs
 simp only[V3.add]at q2
 have hv:Ja (Qa p s)=true:=by
  simp only[Ja,Qa,List.all_cons,List.all_nil,Bool.and_true,Bool.and_eq_true]
  refine⟨?_,?_,?_,?_,?_,?_,?_,?_⟩<;>rw[V3.valid_iff]<;>simp only<;>omega
 have hz:(Mesh.mk (Qa p s) Qh).check=0:=Mesh.check_zero.2 ⟨by simp[Qa],by simp[Qh],hv,box_sphere.ok⟩
 have hb:=Q6y h1 h2 h3 hp hs
 refine⟨hz,snd_iff.2 ⟨hz,hb.a,box_sphere.coh,λt ht=>?_,λsh hsh=>?_⟩⟩
 ·have hxy:s.x*s.y≠0:=Int.mul_ne_zero (by omega) (by omega)
  have hxz:s.x*s.z≠0:=Int.mul_ne_zero (by omega) (by omega)
  have hyz:s.y*s.z≠0:=Int.mul_ne_zero (by omega) (by omega)
  have key:∀a b c:V3,(b.sub a).crs (c.sub a)≠⟨0,0,0⟩->Wo a b c=false:=λa b c h=>by
   unfold Wo
   rw[decide_eq_false h]
   simp
  unfold Mesh.deg
  simp only[Qh,List.mem_cons,List.not_mem_nil,or_false]at ht
  rcases ht with rfl | rfl | rfl | rfl | rfl | rfl | rfl | rfl | rfl | rfl | rfl | rfl<;>refine key _ _ _ λhe=>?_<;>simp[Mesh.v,Qa,V3.sub,V3.crs]at he<;>(rcases Int.mul_eq_zero.1 he with he | he)<;>omega
 ·rw[Qlv (m:=Mesh.mk (Qa p s) Qh) box_sphere hz hsh]
  have:=hb.e
  have hf:=hb.f
  have e:Yz (Qa p s) Qh=6*s.x*s.y*s.z:=Qfg p s
  show 0<=Yz (Qa p s) Qh
  rw[e];omega
theorem Qox {l:List Sg4} (h:∀p:Int × Int,l.countP (λs=>decide (s.a=p))=l.countP (λs=>decide (s.b=p))):Be (egs l):=by
 intro q
 have:=h (q.x,q.y)
 unfold egs
 rw[List.countP_map,List.countP_map]
 have e1:∀s:Sg4,decide (s.a=(q.x,q.y))=decide (s.eg.1=q):=λs=>by
  refine decide_eq_decide.2 ?_
  unfold Sg4.eg
  cases q
  simp[Prod.ext_iff]
 have e2:∀s:Sg4,decide (s.b=(q.x,q.y))=decide (s.eg.2=q):=λs=>by
  refine decide_eq_decide.2 ?_
  unfold Sg4.eg
  cases q
  simp[Prod.ext_iff]
 rw[List.countP_congr (p:=λs:Sg4=>decide (s.a=(q.x,q.y))) (q:=(λe=>decide (e.1=q)) ∘ Sg4.eg) (λs _=>by simp only[e1,Function.comp])]at this
 rw[List.countP_congr (p:=λs:Sg4=>decide (s.b=(q.x,q.y))) (q:=(λe=>decide (e.2=q)) ∘ Sg4.eg) (λs _=>by simp only[e2,Function.comp])]at this
 exact this
theorem Q7h {m:Mesh} (hc:m.closed=true) {z k:Int} (hz:-65536<=z/\z<=65536) (hk:Zf k 32 1024=true):Zb m z k=(Ui (egs (Zv m z m.tris)) k,0):=by
 have hz0:m.check=0:=by
  simp only[Mesh.closed,Bool.and_eq_true,decide_eq_true_eq]at hc;exact hc.1
 have hs:Zr m z=(Zv m z m.tris,0):=by
  unfold Zr
  rw[if_pos hz0,if_neg (by omega)]
 have hb:=Qox (l:=(Zr m z).1) (Q4z hc)
 unfold Zb
 rw[hs]at hb ⊢
 rw[if_neg (by rw[hk];simp),if_neg (by simp),if_pos hb]
end Go.Abs
