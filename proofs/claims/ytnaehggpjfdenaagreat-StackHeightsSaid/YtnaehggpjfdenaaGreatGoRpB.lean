/- Part of the library on which the proof stands: an abstract machine, its values and its soundness against the model; or what functions of the program do to such values. -/
import Derived.Test.YtnaehggpjfdenaaGreatGoSkG
import Derived.Test.YtnaehggpjfdenaaGreatGoSecF
import Derived.Test.YtnaehggpjfdenaaGreatGoShpD
import Derived.Test.YtnaehggpjfdenaaGreatGoMapG
import Derived.Test.YtnaehggpjfdenaaGreatGoSo
import Derived.Test.YtnaehggpjfdenaaGreatGoShpN
import Derived.Test.YtnaehggpjfdenaaGreatGoShp
import Derived.Test.YtnaehggpjfdenaaGreatGoRsD
import Derived.Test.YtnaehggpjfdenaaGreatGoStD
import Derived.Test.YtnaehggpjfdenaaGreatAbsCP
set_option linter.unusedVariables false
set_option linter.unusedSimpArgs false
set_option maxHeartbeats 16000000
set_option maxRecDepth 20000
namespace Go.Abs
theorem Q7e (s:Sett) (n:Nat):∀x∈s.cs,x.cl n=true:=λx hx=>by
 simp only[Sett.cs,List.mem_cons,List.not_mem_nil,or_false]at hx
 rcases hx with rfl | rfl | rfl | rfl | rfl | rfl | rfl | rfl | rfl | rfl | rfl | rfl | rfl | rfl | rfl | rfl | rfl | rfl | rfl | rfl<;>rfl
theorem Qju {k h:Int} {ms:List Mesh} {i:Nat} {m:Mesh} (hq:ms[i]?=some m) {acc:List (List Rw)}:Q4d k h acc (ms.drop i)=if (Jc m k h).2≠0 then ([],(Jc m k h).2) else Q4d k h (Q2l acc (Jc m k h).1) (ms.drop (i+1)):=by
 obtain⟨hlt,hq'⟩:=q8.1 hq
 rw[List.drop_eq_getElem_cons hlt,hq']
 rfl
section
variable {P:Program} (hm:P.follows .mixedOrders=true)
include hm
theorem Q1a {f fe fp fu:FuncId} (hf:Q9 P f (L1w.c fe fp fu) L1w.r L1w.n) (he:Q13 P fe) (hp:Qf6 P fp) (hu:Qp4 P fu):Q99 P f:=by
 intro ms s hml
 have e1:=he s.pitch 32 1024 (by omega)
 have e2:=he s.height 4 1024 (by omega)
 have hnil:∀e:Int,Le (.t [.nil,.i .i64 e]) (.t [Ju [],.i .i64 e]):=λe=>.inr ⟨_,_,rfl,rfl,.inl (Le0.nil 1),Le1.refl _,trivial⟩
 unfold Ws
 cases hv1:Zh s.pitch 32 1024 with
 | false =>
   rw[hv1]at e1
   rw[if_pos (.inl rfl)]
   refine CallIs.res (r:=.t [.nil,.i .i64 1]) ?_ (hnil _)
   refine PureC.is (Q8 hm hf (qh rfl) ?_) rfl
   unfold L1w.c
   simp[go_sem,msV,Sett.enc,Sett.cs]
   refine Q5 e1 ?_
   simp[go_sem,L1w.r]
   done
 | true =>
 cases hv2:Zh s.height 4 1024 with
 | false =>
   rw[hv1]at e1
   rw[hv2]at e2
   rw[if_pos (.inr rfl)]
   refine CallIs.res (r:=.t [.nil,.i .i64 1]) ?_ (hnil _)
   refine PureC.is (Q8 hm hf (qh rfl) ?_) rfl
   unfold L1w.c
   simp[go_sem,msV,Sett.enc,Sett.cs]
   refine Q5 e1 ?_
   simp[go_sem]
   refine Q5 e2 ?_
   simp[go_sem,L1w.r]
   done
 | true =>
 rw[hv1]at e1
 rw[hv2]at e2
 rw[if_neg (by simp)]
 obtain⟨R,hR⟩:∃R,R=Q4d s.pitch s.height [] ms:=⟨_,rfl⟩
 rw[<- hR]
 refine CallIs.res (r:=.t [if R.2≠0 then .nil else Ju R.1,.i .i64 R.2]) ?_ (by
  by_cases h1:R.2=0
  ·rw[if_neg (by simp[h1])]
   exact Le.refl _
  ·rw[if_pos h1]
   have h2:R.1=[]:=by rw[hR]at h1 ⊢;exact Qca h1
   rw[h2]
   exact hnil _)
 refine PureC.is (Q8 hm hf (qh rfl) ?_) rfl
 unfold L1w.c
 simp[go_sem,msV,Sett.enc,Sett.cs]
 refine Q5 e1 ?_
 simp[go_sem]
 refine Q5 e2 ?_
 simp[go_sem]
 refine Qz [.t 6 1] (α:=Nat × Nat × List (List Rw)) (λp=>p.1<=ms.length/\Q4d s.pitch s.height p.2.2 (ms.drop p.1)=R/\Ky p.2.2/\p.2.2.length<=256)
  (λp=>⟨[(3,.p 0 1 0 0),(6,.own 1 (p.2.1+1) 0 p.2.2.length),(23,msV ms),(24,.i .i64 ms.length),(25,.i .i64 p.1)],[.arr 1 20 [s.cs],.arr (p.2.1+1) 1 (p.2.2.map rgE)]⟩)
  (λp=>ms.length-p.1) (0,0,[]) ⟨Nat.zero_le _,hR.symm,by simp[Ky],by simp⟩ ?_ ?_
 ·simp[go_sem,msV,Sett.cs]
 rintro⟨i,g,acc⟩ ⟨hi,hacc,hav,hal⟩
 simp only at hi hacc hav hal ⊢
 by_cases hil:i=ms.length
 ·subst hil
  rw[List.drop_length]at hacc
  have hR2:R=(acc,0):=hacc.symm
  have ht:List.take acc.length (acc.map rgE)=acc.map rgE:=qe (by simp)
  rw[hR2]
  simp (disch:=omega) [go_sem,msV,ht,Xr,L1w.r]
  rw[if_pos (Qfn acc)];rfl
 have hlt:i<ms.length:=by omega
 have hq:ms[i]?=some ms[i]:=q9 hlt
 rw[Qju hq]at hacc
 have hpc:=hp ms[i] s
 have hpv:=partR_v ms[i] s.pitch s.height
 generalize ms[i]=m at *
 obtain⟨_,hq'⟩:=q8.1 hq
 generalize Jc m s.pitch s.height=T at *
 obtain⟨l,e⟩:=T
 simp only at hacc hpc hpv
 simp only[Mesh.enc,Mesh.cs,Sett.enc,Sett.cs]at hpc
 simp (disch:=omega) [go_sem,msV,hlt,hq,hq',Mesh.cs,Sett.cs,Q3]
 refine Q5 hpc ?_
 by_cases he0:e=0
 case neg =>
  have heb:(e != 0)=true:=by simpa using he0
  rw[if_pos he0]at hacc
  rw[<- hacc]
  simp (disch:=omega) [go_sem,he0,heb,L1w.r]
 subst he0
 rw[if_neg (by simp)]at hacc
 obtain⟨hlv,hll⟩:=hpv
 simp (disch:=omega) [go_sem,Xr,Q3]
 refine Qh (α:=Nat × Nat) (λp=>p.1<=l.length)
  (λp=>⟨[(3,.p 0 1 0 0),(6,.own 1 (p.2+1) 0 (Ui acc l p.1).length),(23,msV ms),(24,.i .i64 ms.length),(25,.i .i64 i),(38,Ju l),(39,.i .i64 l.length),(40,.i .i64 p.1)],[.arr 1 20 [s.cs],.arr (p.2+1) 1 ((Ui acc l p.1).map rgE)]⟩)
  (λp=>l.length-p.1) (0,g) (by simp) ?_ ?_
 ·simp[go_sem,msV,Qie,Xr]
  exact⟨⟨rfl,Q7e s 2⟩,Q7o _ _⟩
 rintro⟨j,g2⟩ hj
 simp only at hj ⊢
 have hml2:=K5 acc l j
 by_cases hjl:j=l.length
 ·subst hjl
  rw[Qm8 hav]
  have hul:=Q2k acc l
  simp (disch:=omega) [go_sem,Xr,Q3]
  exact⟨i+1,g2,Q2l acc l,⟨by omega,hacc,uniL_v _ _,by omega⟩,by omega,⟨⟨rfl,rfl⟩,rfl,by omega⟩,rfl,⟨rfl,rfl⟩,Q7o _ _⟩
 have hjt:j<l.length:=by omega
 have hu1:l[j]?=some l[j]:=q9 hjt
 have hrv:=hlv _ (qb hu1)
 have hatl:atR l j=l[j]:=by unfold atR;rw[hu1];rfl
 have hav2:=Qoy hav j
 have happ:=Qm7 (acc:=acc) (l:=l) (j:=j)
 have hset:=Qm6 (acc:=acc) (l:=l) (j:=j)
 have hget:=W8 (acc:=acc) (l:=l) (j:=j) (i:=j)
 rw[hatl]at happ hset
 generalize l[j]=r at *
 obtain⟨_,hu1'⟩:=q8.1 hu1
 have hMj:(Ui acc l j).length<=600:=by rw[hml2];omega
 generalize Ui acc l j=M at *
 have htk:List.take M.length (M.map rgE)=M.map rgE:=qe (by simp)
 by_cases hjm:acc.length<=j
 ·have hMl:M.length=j:=by omega
  have hM':=happ hjm
  have hat0:atR acc j=[]:=by unfold atR;rw[qk hjm];rfl
  rw[hat0]at hM' hav2
  have huc:=hu .nil [] r (.inr ⟨rfl,rfl⟩) RgV.nil RgB.nil hrv.1 hrv.2
  subst hMl
  simp (disch:=omega) [go_sem,Xr,hjt,hu1,hu1',rgE,htk,Qag,Qaf,Q3]
  refine⟨⟨by omega,by omega⟩,?_,Q6z (id:=4) (o:=.arr 1 1 [[.nil],[rwL r]]) (o':=.dead) rfl (λh2 hh=>Ya (vs:=[.l 1 [[.nil],[rwL r]]]) (by simp[X5,frz,X6,hh,rwL,V.isD]) huc ⟨rfl,rfl⟩) (.inr (by simp)) (by rfl) ?_⟩
  ·rfl
  simp (disch:=omega) [go_sem,rgV,V.cells,V.okA,Qag,Qaf,Q3]
  exact⟨M.length+1,by omega,by omega,g2+1,⟨⟨rfl,by rw[hM'];simp⟩,.inr rfl,by omega⟩,Q7e s 2,⟨rfl,by rw[hM'];simp[rgE,rwL]⟩,Q7o _ _⟩
 ·have hMl:M.length=acc.length:=by omega
  have hM':=hset (by omega)
  have hg:=hget (by omega)
  rw[if_neg (by omega)]at hg
  have huc:=hu (rwL (atR acc j)) (atR acc j) r (.inl rfl) hav2.1 hav2.2 hrv.1 hrv.2
  have hjn:((j:Int) == acc.length)=false:=by simp;omega
  have hjn2:¬ (j:Int)=acc.length:=by omega
  have hjt2:j<acc.length:=by omega
  have hjt3:j<M.length:=by omega
  obtain⟨_,hg'⟩:=q8.1 hg
  simp (disch:=omega) [go_sem,Xr,hjt,hu1,hu1',rgE,hMl,hjn,hjn2,hjt2,hjt3,hg,hg',Q3]
  refine⟨⟨rfl,rfl⟩,Q6z (id:=3) (o:=.arr 1 1 [[rwL (atR acc j)],[rwL r]]) (o':=.dead) rfl (λh2 hh=>Ya (vs:=[.l 1 [[rwL (atR acc j)],[rwL r]]]) (by simp[X5,frz,X6,hh,rwL,V.isD]) huc ⟨rfl,rfl⟩) (.inr (by simp)) (by rfl) ?_⟩
  simp (disch:=omega) [go_sem,rgV,V.cells,V.okA,rgE,hMl,hjt2,hjt3,hg,hg',Q3]
  exact⟨j+1,by omega,by omega,g2,⟨⟨rfl,by rw[hM'];simp[hMl]⟩,.inr rfl,by omega⟩,Q7e s 2,⟨rfl,by rw[hM',List.map_set];rfl⟩,λ_ _=>rfl⟩
end
section
variable {P:Program} (hm:P.follows .mixedOrders=true)
include hm
theorem StackHeights_ok {f fh fr fa:FuncId} (hf:Q9 P f (L08.c fh fr fa) L08.r L08.n) (hh:Qcf P fh) (hr:Qcf P fr) (ha:Qfe P fa) (top height:Int) (h1:top<=9223372036854775807) (h2:-9223372036854775808<=top) :
  PureC P f [.i .i64 top,.i .i64 height] (·=.b true):=by
 have c1:=hh top height h1 h2
 have c2:=hr top height h1 h2
 have hl:=Q40 top height
 refine Q8 hm hf (qh rfl) ?_
 unfold L08.c
 generalize El top height=H at *
 obtain⟨l,e⟩:=H
 simp only at c1 c2 hl
 simp[go_sem]
 refine Q5 c1 ?_
 simp[go_sem]
 refine Q5 c2 ?_
 simp[go_sem,isV]
 refine Qh (α:=Nat) (λi=>i<=l.length)
  (λi=>⟨[(5,isV l),(7,isV l),(9,.i .i64 i)],[]⟩)
  (λi=>l.length-i) 0 (Nat.zero_le _) ?_ ?_
 ·simp[go_sem,isV]
 intro i hi
 by_cases hil:i=l.length
 ·subst hil
  simp[go_sem,isV]
  refine Q5 ha ?_
  simp[go_sem,L08.r]
 ·have hlt:i<l.length:=by omega
  have hq:l[i]?=some l[i]:=q9 hlt
  generalize l[i]=x at *
  obtain⟨_,hq'⟩:=q8.1 hq
  simp (disch:=omega) [go_sem,isV,hlt,hq,hq',Q3]
  exact⟨i+1,by omega,by omega,by omega⟩
end
def Qe0 (U:List Int) (x:Int):List Int:=if x∈U then U else U++[x]
def Qe1 (U:List Int) (t:T3):List Int:=Qe0 (Qe0 (Qe0 U t.a) t.b) t.c
def Jy (ts:List T3):List Int:=ts.foldl Qe1 []
theorem Qcp (ts:List T3) (t:T3):Jy (ts++[t])=Qe1 (Jy ts) t:=by simp[Jy]
theorem Q87 {U:List Int} (h:U.Nodup) (x:Int):(Qe0 U x).Nodup/\(∀v,v∈Qe0 U x↔v∈U∨v=x)/\(Qe0 U x).length<=U.length+1:=by
 unfold Qe0
 split
 ·rename_i hx
  exact⟨h,λv=>⟨.inl,λhh=>hh.elim id (λe=>e ▸ hx)⟩,by omega⟩
 ·rename_i hx
  refine⟨?_,λv=>by simp,by simp⟩
  rw[List.nodup_append]
  exact⟨h,by simp,λa ha b hb=>by simp at hb;subst hb;rintro rfl;exact hx ha⟩
theorem insT_ok {U:List Int} (h:U.Nodup) (t:T3):(Qe1 U t).Nodup/\(∀v,v∈Qe1 U t↔v∈U∨v=t.a∨v=t.b∨v=t.c)/\(Qe1 U t).length<=U.length+3:=by
 obtain⟨a1,a2,a3⟩:=Q87 h t.a
 obtain⟨b1,b2,b3⟩:=Q87 a1 t.b
 obtain⟨c1,c2,c3⟩:=Q87 b1 t.c
 refine⟨c1,λv=>?_,by unfold Qe1;omega⟩
 unfold Qe1
 rw[c2,b2,a2,or_assoc,or_assoc]
theorem Qkh (ts:List T3):(Jy ts).Nodup/\(∀v,v∈Jy ts↔∃t∈ts,v=t.a∨v=t.b∨v=t.c)/\(Jy ts).length<=3*ts.length:=by
 have key:∀k,k<=ts.length->(Jy (ts.take k)).Nodup/\(∀v,v∈Jy (ts.take k)↔∃t∈ts.take k,v=t.a∨v=t.b∨v=t.c)/\(Jy (ts.take k)).length<=3*k:=by
  intro k
  induction k with
  | zero=>intro _;simp[Jy]
  | succ k ih =>
    intro hk
    obtain⟨h1,h2,h3⟩:=ih (by omega)
    have hp:ts[k]?=some ts[k]:=q9 (by omega)
    rw[Qc hp,Qcp]
    obtain⟨i1,i2,i3⟩:=insT_ok h1 ts[k]
    refine⟨i1,λv=>?_,by omega⟩
    rw[i2,h2]
    constructor
    ·rintro (⟨t,ht,hv⟩ | hv)
     ·exact⟨t,qg.2 (.inl ht),hv⟩
     ·exact⟨ts[k],qg.2 (.inr (by simp)),hv⟩
    ·rintro⟨t,ht,hv⟩
     rcases qg.1 ht with h | h
     ·exact .inl ⟨t,h,hv⟩
     ·simp at h;subst h;exact .inr hv
 have:=key ts.length (Nat.le_refl _)
 rwa [qi]at this
def Mesh.euler (m:Mesh):Int:=if m.check=0 then ((Jy m.tris).length:Int)-m.edgesL.length+m.tris.length else 0
theorem Qav {l k:List Int} (hl:l.Nodup) (hk:k.Nodup) (h:∀v,v∈l↔v∈k):l.Perm k:=by
 rw[List.perm_iff_count]
 intro v
 have c:∀{l:List Int},l.Nodup->l.count v=if v∈l then 1 else 0:=λ{l} hl=>by
  by_cases he:v∈l
  ·rw[if_pos he]
   have h1:=List.count_pos_iff.2 he
   have h2:=List.nodup_iff_count.1 hl v
   omega
  ·rw[if_neg he];exact List.count_eq_zero.2 he
 rw[c hl,c hk]
 by_cases hv:v∈l
 ·rw[if_pos hv,if_pos ((h v).1 hv)]
 ·rw[if_neg hv,if_neg (λhh=>hv ((h v).2 hh))]
structure Sphere (T:List T3) (n:Nat):Prop where
 pos:0<T.length
 own:∃f:P2->Nat,∀p,p<T.length->∀e∈Q7 (tAt T p),f e=p
 clo:∀p,p<T.length->∀e∈Q7 (tAt T p),∃q,q<T.length/\e.rev∈Q7 (tAt T q)
 one:∀i,i<T.length->Conn T 0 i
 ok:W2 n T=true
 flat:∀t∈T,t.a≠t.b/\t.b≠t.c/\t.c≠t.a
 used:∀v:Nat,v<n->∃t∈T,(v:Int)=t.a∨(v:Int)=t.b∨(v:Int)=t.c
 num:T.length+4=2*n
theorem Sphere.coh {T:List T3} {n:Nat} (h:Sphere T n):Coh T:=by
 obtain⟨f,hf⟩:=h.own
 intro i j e hi hj h1 h2
 rw[<- hf i hi e h1,hf j hj e h2]
theorem Sphere.Clo {T:List T3} {n:Nat} (h:Sphere T n):Go.Abs.Clo T:=by
 intro e he
 obtain⟨p,hp,h1⟩:=mem_all.1 he
 obtain⟨q,hq,h2⟩:=h.clo p hp e h1
 exact mem_all.2 ⟨q,hq,h2⟩
theorem Q38:∀n,0<n->((List.range n).filter λi=>decide (i=0)).length=1
 | 0,h=>by omega
 | 1,_=>by simp
 | n+2,_=>by
   rw[List.range_succ,List.filter_append,j3,Q38 (n+1) (by omega)]
   simp
theorem Sphere.shells {m:Mesh} {n:Nat} (h:Sphere m.tris n) (hz:m.check=0):m.shells.length=1:=by
 obtain⟨L,hL⟩:=Q84 m.tris
 have hR:m.shells=Xq L m.tris.length:=by unfold Mesh.shells;rw[if_pos hz,Ir hL,hL.len]
 have h0:L[0]?=some 0:=by
  have h1:L[0]?=some (L[0]'(by rw[hL.len];exact h.pos)):=q9 _
  obtain⟨a,b,_⟩:=hL.con 0 _ h1
  rw[h1];congr 1;omega
 rw[hR]
 unfold Xq
 rw[List.length_map]
 have:(List.range m.tris.length).filter (λ(i:Nat)=>decide (L[i]?=some (i:Int)))=(List.range m.tris.length).filter λi=>decide (i=0):=by
  refine List.filter_congr λi hi=>?_
  rw[decide_eq_decide,<- hL.conn (h.one i (qy.1 hi)),h0]
  constructor
  ·intro hh;have:=Option.some.inj hh;omega
  ·rintro rfl;rfl
 rw[this]
 exact Q38 _ h.pos
theorem Q8t {t:T3} (h:t.a≠t.b/\t.b≠t.c/\t.c≠t.a):Q7 t=Jw t:=by
 have h2:Q7 t=(Jw t).filter λe=>decide (e.x≠e.y):=rfl
 rw[h2]
 unfold Jw
 simp[h.1,h.2.1,h.2.2]
theorem B6:∀{T:List T3},(∀t∈T,t.a≠t.b/\t.b≠t.c/\t.c≠t.a)->(Qa T).length=3*T.length
 | [],_=>rfl
 | t::T,h=>by
   have h0:Qa (t::T)=Q7 t++Qa T:=rfl
   rw[h0,j3,B6 (λx hx=>h x (by simp[hx])),Q8t (h t (by simp)),List.length_cons]
   simp only[Jw,List.length_cons,List.length_nil];omega
theorem Qjh {l:List P2} (h:asc l):l.Nodup:=by
 unfold asc at h
 exact h.imp λ{a b} hab=>by rintro rfl;exact P2.lt_irrefl a hab
theorem Sphere.edges {m:Mesh} {n:Nat} (h:Sphere m.tris n) (hz:m.check=0):2*m.edgesL.length=3*m.tris.length:=by
 rw[<- B6 h.flat]
 have hnd:=coh_iff.2 h.coh
 have hcl:∀e∈Qa m.tris,e.rev∈Qa m.tris:=h.Clo
 have hne:∀e∈Qa m.tris,e.x≠e.y:=λe he=>Qet he
 have hE:m.edgesL=Wm ((Qa m.tris).map P2.und):=by unfold Mesh.edgesL;rw[if_pos hz]
 rw[hE]
 generalize Qa m.tris=A at *
 have hB1:(Wm (A.map P2.und)).length=(A.filter λe=>decide (e.x<e.y)).length:=by
  have hm:∀a,a∈Wm (A.map P2.und)↔a∈A.filter λe=>decide (e.x<e.y):=λa=>by
   rw[Wu,qo,qu,decide_eq_true_eq]
   constructor
   ·rintro⟨e,he,rfl⟩
    by_cases hlt:e.x<e.y
    ·rw[Qkk hlt];exact⟨he,hlt⟩
    ·rw[und_gt hlt]
     have:=hne e he
     exact⟨hcl e he,by show e.y<e.x;omega⟩
   ·rintro⟨he,hlt⟩
    exact⟨a,he,Qkk hlt⟩
  refine Nat.le_antisymm (J3 (Qjh (U7 _)) λa ha=>(hm a).1 ha) (J3 (hnd.filter _) λa ha=>(hm a).2 ha)
 have hB2:(A.filter λe=>decide (e.x<e.y)).length=(A.filter λe=>!decide (e.x<e.y)).length:=by
  have hinj:∀l:List P2,l.Nodup->(l.map P2.rev).Nodup:=λl hl=>by
   rw[List.nodup_iff_pairwise_ne,jd]
   exact hl.imp λ{a b} hab hh=>hab (by have:=congrArg P2.rev hh;exact this)
  refine Nat.le_antisymm ?_ ?_
  ·have:=J3 (hinj _ (hnd.filter λe=>decide (e.x<e.y))) (B:=A.filter λe=>!decide (e.x<e.y)) λa ha=>by
    obtain⟨b,hb,rfl⟩:=qo.1 ha
    obtain⟨h1,h2⟩:=qu.1 hb
    rw[decide_eq_true_eq]at h2
    refine qu.2 ⟨hcl b h1,?_⟩
    have:¬ b.rev.x<b.rev.y:=by show ¬ b.y<b.x;omega
    simp[this]
   simpa using this
  ·have:=J3 (hinj _ (hnd.filter λe=>!decide (e.x<e.y))) (B:=A.filter λe=>decide (e.x<e.y)) λa ha=>by
    obtain⟨b,hb,rfl⟩:=qo.1 ha
    obtain⟨h1,h2⟩:=qu.1 hb
    have h3:¬ b.x<b.y:=by simpa using h2
    have h4:=hne b h1
    refine qu.2 ⟨hcl b h1,?_⟩
    have:b.rev.x<b.rev.y:=by show b.y<b.x;omega
    simpa using this
   simpa using this
 have hsum:A.length=(A.filter λe=>decide (e.x<e.y)).length+(A.filter λe=>!decide (e.x<e.y)).length:=by
  generalize A=l
  induction l with
  | nil=>rfl
  | cons a l ih =>
    rw[List.filter_cons,List.filter_cons,List.length_cons]
    by_cases hh:a.x<a.y<;>simp[hh]<;>omega
 omega
theorem Sphere.euler {m:Mesh} (h:Sphere m.tris m.verts.length) (hz:m.check=0):m.euler=2:=by
 have hE:=h.edges hz
 obtain⟨u1,u2,_⟩:=Qkh m.tris
 have hU:(Jy m.tris).length=m.verts.length:=by
  have hp:(Jy m.tris).Perm ((List.range m.verts.length).map λ(j:Nat)=>(j:Int)):=by
   refine Qav u1 ?_ λv=>?_
   ·rw[List.nodup_iff_pairwise_ne,jd]
    have h0:(List.range m.verts.length).Nodup:=List.nodup_range
    rw[List.nodup_iff_pairwise_ne]at h0
    exact h0.imp λ{a b:Nat} (h:a≠b) (hh:(a:Int)=(b:Int))=>h (by omega)
   ·rw[u2,qo]
    constructor
    ·rintro⟨t,ht,hv⟩
     obtain⟨a1,a2,b1,b2,c1,c2⟩:=T3.ok_iff.1 (qj.1 h.ok t ht)
     exact⟨v.toNat,qy.2 (by omega),by omega⟩
    ·rintro⟨j,hj,rfl⟩
     exact h.used j (qy.1 hj)
  have:=hp.length_eq
  simpa using this
 have hn:=h.num
 unfold Mesh.euler
 rw[if_pos hz,hU]
 omega
theorem Sphere.all {m:Mesh} (h:Sphere m.tris m.verts.length) (hz:m.check=0):m.closed=true/\m.coh=true/\m.shells.length=1/\m.euler=2 :=
 ⟨Qel hz h.coh h.Clo,by unfold Mesh.coh;rw[hz,cohB_iff.2 h.coh];rfl,h.shells hz,h.euler hz⟩
def boxOwn (e:P2):Nat:=((List.range 12).find? λp=>decide (e∈Q7 (tAt Qi p))).getD 0
theorem Ys {i j:Nat} (h:((decide (i<12) && decide (j<12)) && (Q7 (tAt Qi i)).any λa=>(Q7 (tAt Qi j)).any λb=>decide (a.und=b.und))=true):adjI Qi i j:=by
 simp only[Bool.and_eq_true,decide_eq_true_eq,List.any_eq_true]at h
 obtain⟨⟨h1,h2⟩,a,ha,b,hb,hab⟩:=h
 exact Qp1 h1 h2 ha hb hab
theorem box_sphere:Sphere Qi 8 where
 pos:=by decide
 own:=⟨boxOwn,by decide⟩
 clo:=by decide
 one:=by
  have c0:Conn Qi 0 0:=.refl (by decide)
  have c1:Conn Qi 0 1:=c0.tail (Ys (by decide))
  have c4:Conn Qi 0 4:=c1.tail (Ys (by decide))
  have c5:Conn Qi 0 5:=c4.tail (Ys (by decide))
  have c2:Conn Qi 0 2:=c5.tail (Ys (by decide))
  have c3:Conn Qi 0 3:=c2.tail (Ys (by decide))
  have c6:Conn Qi 0 6:=c3.tail (Ys (by decide))
  have c7:Conn Qi 0 7:=c6.tail (Ys (by decide))
  have c8:Conn Qi 0 8:=c5.tail (Ys (by decide))
  have c9:Conn Qi 0 9:=c8.tail (Ys (by decide))
  have c10:Conn Qi 0 10:=c7.tail (Ys (by decide))
  have c11:Conn Qi 0 11:=c10.tail (Ys (by decide))
  intro i hi
  have hi:i<12:=hi
  match i,hi with
  | 0,_=>exact c0
  | 1,_=>exact c1
  | 2,_=>exact c2
  | 3,_=>exact c3
  | 4,_=>exact c4
  | 5,_=>exact c5
  | 6,_=>exact c6
  | 7,_=>exact c7
  | 8,_=>exact c8
  | 9,_=>exact c9
  | 10,_=>exact c10
  | 11,_=>exact c11
 ok:=by decide
 flat:=by decide
 used:=by decide
 num:=by decide
theorem Qff (p s:V3):Yx (Qb p s) Qi=6*s.x*s.y*s.z:=by
 have h:∀i:Nat,i<8->vAt (Qb p s) (i:Int)=(Qb p s).getD i ⟨0,0,0⟩:=λi _=>by
  unfold vAt;rw[Int.toNat_natCast,List.getD_eq_getElem?_getD]
 have h0:vAt (Qb p s) 0=⟨p.x,p.y,p.z⟩:=h 0 (by omega)
 have h1:vAt (Qb p s) 1=⟨p.x+s.x,p.y,p.z⟩:=h 1 (by omega)
 have h2:vAt (Qb p s) 2=⟨p.x,p.y+s.y,p.z⟩:=h 2 (by omega)
 have h3:vAt (Qb p s) 3=⟨p.x+s.x,p.y+s.y,p.z⟩:=h 3 (by omega)
 have h4:vAt (Qb p s) 4=⟨p.x,p.y,p.z+s.z⟩:=h 4 (by omega)
 have h5:vAt (Qb p s) 5=⟨p.x+s.x,p.y,p.z+s.z⟩:=h 5 (by omega)
 have h6:vAt (Qb p s) 6=⟨p.x,p.y+s.y,p.z+s.z⟩:=h 6 (by omega)
 have h7:vAt (Qb p s) 7=⟨p.x+s.x,p.y+s.y,p.z+s.z⟩:=h 7 (by omega)
 simp only[Yx,Qi,List.map_cons,List.map_nil,List.sum_cons,List.sum_nil,Q9x,h0,h1,h2,h3,h4,h5,h6,h7,Qbt,Qoj,crs]
 grind
def cr (p q:P2):Int:=p.x*q.y-p.y*q.x
structure SoundM (m:Mesh) (v:Int):Prop where
 a:m.closed=true
 b:m.coh=true
 c:m.shells.length=1
 d:m.euler=2
 e:m.vol6=v
 f:0<v
theorem Ql0 {m:Mesh} {v:Int} (hv:J7 m.verts=true) (h:Sphere m.tris m.verts.length) (hl:m.verts.length<=200) (he:Yx m.verts m.tris=v) (hp:0<v):SoundM m v:=by
 have hn:=h.num
 have hz:m.check=0:=Mesh.check_zero.2 ⟨by omega,by omega,hv,h.ok⟩
 obtain⟨a,b,c,d⟩:=h.all hz
 exact⟨a,b,c,d,by unfold Mesh.vol6;rw[if_pos hz,he],hp⟩
theorem Q6t {p s:V3} (h1:1<=s.x) (h2:1<=s.y) (h3:1<=s.z) (hp:p.valid=true) (hs:(p.add s).valid=true):SoundM ⟨Qb p s,Qi⟩ (6*s.x*s.y*s.z):=by
 have q1:=V3.valid_iff.1 hp
 have q2:=V3.valid_iff.1 hs
 simp only[V3.add]at q2
 refine Ql0 ?_ box_sphere (by simp[Qb]) (Qff p s) ?_
 ·simp only[J7,Qb,List.all_cons,List.all_nil,Bool.and_true,Bool.and_eq_true]
  refine⟨?_,?_,?_,?_,?_,?_,?_,?_⟩<;>rw[V3.valid_iff]<;>simp only<;>omega
 ·have a1:=Int.mul_pos (show (0:Int)<6*s.x by omega) (show (0:Int)<s.y by omega)
  exact Int.mul_pos a1 (by omega)
def upAt (m:Mesh) (z:Int) (e:P2):Option (Int × Int):=point (m.v e.x) (m.v e.y) z
theorem Qfh {m:Mesh} {z:Int} {e:P2} {p:Int × Int} (h:upAt m z e=some p):e.x≠e.y:=by
 intro he
 unfold upAt point at h
 rw[he]at h
 split at h
 ·rename_i hh;omega
 ·simp at h
theorem Ut {t:T3} {q:P2->Bool} (hq:∀e,q e=true->e.x≠e.y):(Q7 t).countP q=(Jw t).countP q:=by
 unfold Q7 Zn
 rw[List.countP_filter,qe (by simp[Jw])]
 refine List.countP_congr λe _=>?_
 have:=hq e
 by_cases h:q e=true
 ·simp[h,this h]
 ·simp[h]
theorem Qeh {a b c:V3} {z:Int} (ha:a.valid=true) (hb:b.valid=true) (hc:c.valid=true) (p:Int × Int) :
  ([Q5q z a b c].filter (·.found)).countP (λs=>decide (s.b=p))=[point a b z,point b c z,point c a z].countP (λo=>decide (o=some p)) /\
  ([Q5q z a b c].filter (·.found)).countP (λs=>decide (s.a=p))=[point b a z,point c b z,point a c z].countP (λo=>decide (o=some p)):=by
 by_cases h1:a.z<=z<;>by_cases h2:b.z<=z<;>by_cases h3:c.z<=z <;>
  simp[Q5q,Jh,Sg4.init,Sg4.step,point,ha,hb,hc,h1,h2,h3,Int.not_lt.2,Int.not_le.1,show (z<a.z)=¬ (a.z<=z) by simp,show (z<b.z)=¬ (b.z<=z) by simp,show (z<c.z)=¬ (c.z<=z) by simp,List.countP_cons]
theorem P2.rev_rev (e:P2):e.rev.rev=e:=rfl
theorem Q2y {m:Mesh} {z:Int} (hv:J7 m.verts=true) (p:Int × Int):∀ts:List T3,W2 m.verts.length ts=true ->
  (Zv m z ts).countP (λs=>decide (s.b=p))=(Qa ts).countP (λe=>decide (upAt m z e=some p)) /\
  (Zv m z ts).countP (λs=>decide (s.a=p))=(Qa ts).countP (λe=>decide (upAt m z e.rev=some p))
 | [],_=>⟨rfl,rfl⟩
 | t::ts,h=>by
   simp only[W2,List.all_cons,Bool.and_eq_true]at h
   have ih:=Q2y (z:=z) hv p ts h.2
   obtain⟨_,h1,_,h2,_,h3⟩:=T3.ok_iff.1 h.1
   have hs:Zv m z (t::ts)=[Jt m z t].filter (·.found)++Zv m z ts:=by
    simp only[Zv,List.map_cons,List.filter_cons,List.filter_nil]
    split<;>rfl
   have ha:Qa (t::ts)=Q7 t++Qa ts:=rfl
   have hc:=Qeh (z:=z) (Mesh.v_valid hv h1) (Mesh.v_valid hv h2) (Mesh.v_valid hv h3) p
   rw[hs,ha,List.countP_append,List.countP_append,List.countP_append,List.countP_append,ih.1,ih.2,
    Ut (λe he=>Qfh (of_decide_eq_true he)),Ut (λe he=>λhh=>Qfh (of_decide_eq_true he) hh.symm)]
   unfold Jt
   rw[hc.1,hc.2]
   exact⟨rfl,rfl⟩
theorem Q8w {m:Mesh} (h:m.closed=true) (e:P2):(Qa m.tris).count e=(Qa m.tris).count e.rev:=by
 simp only[Mesh.closed,Bool.and_eq_true,decide_eq_true_eq]at h
 obtain⟨hz,hb⟩:=h
 have key:∀e:P2,(Qa m.tris).count e<=(Qa m.tris).count e.rev:=by
  intro e
  by_cases he:e∈Qa m.tris
  ·refine j7 λhlt=>?_
   have:e∈m.border:=mem_border.2 ⟨hz,he,by simp only[Mesh.use,hz,if_true];omega⟩
   rw[hb]at this;simp at this
  ·rw[List.count_eq_zero.2 he];omega
 have h1:=key e
 have h2:=key e.rev
 rw[P2.rev_rev]at h2
 omega
theorem Qbw {m:Mesh} (h:m.closed=true):(Qa m.tris).Perm ((Qa m.tris).map P2.rev):=by
 rw[List.perm_iff_count]
 intro e
 rw[Q8w h e,List.count,List.count,List.countP_map]
 refine List.countP_congr λx _=>?_
 simp only[Function.comp,beq_iff_eq]
 constructor
 ·rintro rfl;rfl
 ·rintro rfl;rfl
theorem Q4u {m:Mesh} {z:Int} (h:m.closed=true) (p:Int × Int) :
  (Zr m z).1.countP (λs=>decide (s.a=p))=(Zr m z).1.countP (λs=>decide (s.b=p)):=by
 have hz:m.check=0:=by
  simp only[Mesh.closed,Bool.and_eq_true,decide_eq_true_eq]at h;exact h.1
 obtain⟨z1,z2,z3,z4⟩:=Mesh.check_zero.1 hz
 unfold Zr
 rw[if_pos hz]
 split
 ·rfl
 ·have hc:=Q2y (z:=z) z3 p m.tris z4
  simp only
  rw[hc.1,hc.2,(Qbw h).countP_eq,List.countP_map]
  rfl
theorem Qlr {m:Mesh} {n:Nat} (h:Sphere m.tris n) (hz:m.check=0) {sh:List Int} (hs:sh∈m.shells):Zj m.tris sh=m.tris:=by
 obtain⟨L,hL⟩:=Q84 m.tris
 have hR:m.shells=Xq L m.tris.length:=by unfold Mesh.shells;rw[if_pos hz,Ir hL,hL.len]
 rw[hR]at hs
 obtain⟨i,hi,hLi,rfl⟩:=shsK_mem.1 hs
 have hall:∀j,j<m.tris.length->L[j]?=some (i:Int):=λj hj=>by
  rw[<- hL.conn (h.one j hj),hL.conn (h.one i hi)];exact hLi
 have hsh:shK L i L.length=(List.range m.tris.length).map λ(j:Nat)=>(j:Int):=by
  unfold shK
  rw[hL.len]
  congr 1
  refine List.filter_eq_self.2 λj hj=>?_
  simpa using hall j (qy.1 hj)
 rw[hsh]
 unfold Zj
 rw[List.map_map]
 refine qx λj=>?_
 rw[qp]
 by_cases hj:j<m.tris.length
 ·rw[jh hj,Zo hj];rfl
 ·rw[qk (by simpa using hj),qk (by simpa using hj)];rfl
theorem box_ok {p s:V3} (h1:1<=s.x) (h2:1<=s.y) (h3:1<=s.z) (hp:p.valid=true) (hs:(p.add s).valid=true):(Mesh.mk (Qb p s) Qi).check=0/\Wj ⟨Qb p s,Qi⟩=0:=by
 have q1:=V3.valid_iff.1 hp
 have q2:=V3.valid_iff.1 hs
 simp only[V3.add]at q2
 have hv:J7 (Qb p s)=true:=by
  simp only[J7,Qb,List.all_cons,List.all_nil,Bool.and_true,Bool.and_eq_true]
  refine⟨?_,?_,?_,?_,?_,?_,?_,?_⟩<;>rw[V3.valid_iff]<;>simp only<;>omega
 have hz:(Mesh.mk (Qb p s) Qi).check=0:=Mesh.check_zero.2 ⟨by simp[Qb],by simp[Qi],hv,box_sphere.ok⟩
 have hb:=Q6t h1 h2 h3 hp hs
 refine⟨hz,snd_iff.2 ⟨hz,hb.a,box_sphere.coh,λt ht=>?_,λsh hsh=>?_⟩⟩
 ·have hxy:s.x*s.y≠0:=Int.mul_ne_zero (by omega) (by omega)
  have hxz:s.x*s.z≠0:=Int.mul_ne_zero (by omega) (by omega)
  have hyz:s.y*s.z≠0:=Int.mul_ne_zero (by omega) (by omega)
  have key:∀a b c:V3,(b.sub a).crs (c.sub a)≠⟨0,0,0⟩->Wi a b c=false:=λa b c h=>by
   unfold Wi
   rw[decide_eq_false h]
   simp
  unfold Mesh.deg
  simp only[Qi,List.mem_cons,List.not_mem_nil,or_false]at ht
  rcases ht with rfl | rfl | rfl | rfl | rfl | rfl | rfl | rfl | rfl | rfl | rfl | rfl<;>refine key _ _ _ λhe=>?_<;>simp[Mesh.v,Qb,V3.sub,V3.crs]at he<;>(rcases Int.mul_eq_zero.1 he with he | he)<;>omega
 ·rw[Qlr (m:=Mesh.mk (Qb p s) Qi) box_sphere hz hsh]
  have:=hb.e
  have hf:=hb.f
  have e:Yx (Qb p s) Qi=6*s.x*s.y*s.z:=Qff p s
  show 0<=Yx (Qb p s) Qi
  rw[e];omega
theorem Qow {l:List Sg4} (h:∀p:Int × Int,l.countP (λs=>decide (s.a=p))=l.countP (λs=>decide (s.b=p))):Ba (egs l):=by
 intro q
 have:=h (q.x,q.y)
 unfold egs
 rw[List.countP_map,List.countP_map]
 have e1:∀s:Sg4,decide (s.a=(q.x,q.y))=decide (s.eg.1=q):=λs=>by
  refine decide_eq_decide.2 ?_
  unfold Sg4.eg
  cases q
  simp[Prod.ext_iff]
 have e2:∀s:Sg4,decide (s.b=(q.x,q.y))=decide (s.eg.2=q):=λs=>by
  refine decide_eq_decide.2 ?_
  unfold Sg4.eg
  cases q
  simp[Prod.ext_iff]
 rw[List.countP_congr (p:=λs:Sg4=>decide (s.a=(q.x,q.y))) (q:=(λe=>decide (e.1=q)) ∘ Sg4.eg) (λs _=>by simp only[e1,Function.comp])]at this
 rw[List.countP_congr (p:=λs:Sg4=>decide (s.b=(q.x,q.y))) (q:=(λe=>decide (e.2=q)) ∘ Sg4.eg) (λs _=>by simp only[e2,Function.comp])]at this
 exact this
theorem Q7c {m:Mesh} (hc:m.closed=true) {z k:Int} (hz:-65536<=z/\z<=65536) (hk:Zh k 32 1024=true):Zb m z k=(Uc (egs (Zv m z m.tris)) k,0):=by
 have hz0:m.check=0:=by
  simp only[Mesh.closed,Bool.and_eq_true,decide_eq_true_eq]at hc;exact hc.1
 have hs:Zr m z=(Zv m z m.tris,0):=by
  unfold Zr
  rw[if_pos hz0,if_neg (by omega)]
 have hb:=Qow (l:=(Zr m z).1) (Q4u hc)
 unfold Zb
 rw[hs]at hb ⊢
 rw[if_neg (by rw[hk];simp),if_neg (by simp),if_pos hb]
theorem Qj4 (c z0 z1 z:Int) (h1:z0<=z) (h2:z<z1):Q5r c c z0 z1 z=c:=by
 have:=Q8u (c0:=c) (c1:=c) h1 h2
 omega
theorem U0 {c d e:Int} (P:P2):Q24 (⟨c,e⟩,⟨d,e⟩) P=0:=by
 unfold Q24
 rw[if_neg (by simp only[];omega),if_neg (by simp only[];omega)]
theorem Qg9 {c a b:Int} (h:a<=b) (P:P2):Q24 (⟨c,a⟩,⟨c,b⟩) P=if a<=P.y/\P.y<b/\P.x<c then 1 else 0:=by
 unfold Q24
 simp only[]
 have e:Ji ⟨c,a⟩ ⟨c,b⟩ P=(b-a)*(c-P.x):=by unfold Ji;simp only[];grind
 rw[e]
 by_cases h1:a<=P.y/\P.y<b
 ·by_cases h2:P.x<c
  ·rw[if_pos ⟨h1.1,h1.2,Int.mul_pos (by omega) (by omega)⟩,if_pos ⟨h1.1,h1.2,h2⟩]
  ·have:(b-a)*(c-P.x)<=0:=Int.mul_nonpos_of_nonneg_of_nonpos (by omega) (by omega)
   rw[if_neg (by omega),if_neg (by omega),if_neg (by omega)]
 ·rw[if_neg (by omega),if_neg (by omega),if_neg (by omega)]
theorem Qga {c a b:Int} (h:b<=a) (P:P2):Q24 (⟨c,a⟩,⟨c,b⟩) P=if b<=P.y/\P.y<a/\P.x<c then -1 else 0:=by
 unfold Q24
 simp only[]
 have e:Ji ⟨c,a⟩ ⟨c,b⟩ P=-((a-b)*(c-P.x)):=by unfold Ji;simp only[];grind
 rw[e]
 by_cases h1:b<=P.y/\P.y<a
 ·by_cases h2:P.x<c
  ·have:=Int.mul_pos (show 0<a-b by omega) (show 0<c-P.x by omega)
   rw[if_neg (by omega),if_pos (by omega),if_pos ⟨h1.1,h1.2,h2⟩]
  ·have:(a-b)*(c-P.x)<=0:=Int.mul_nonpos_of_nonneg_of_nonpos (by omega) (by omega)
   rw[if_neg (by omega),if_neg (by omega),if_neg (by omega)]
 ·rw[if_neg (by omega),if_neg (by omega),if_neg (by omega)]
theorem box_wnd {p s:V3} (h1:1<=s.x) (h2:1<=s.y) (h3:1<=s.z) (hp:p.valid=true) (hs:(p.add s).valid=true) {z:Int} (z1:p.z<=z) (z2:z<p.z+s.z) (P:P2) :
  0<wnd (egs (Zv ⟨Qb p s,Qi⟩ z Qi)) P↔(p.x<=P.x/\P.x<p.x+s.x)/\p.y<=P.y/\P.y<p.y+s.y:=by
 have q1:=V3.valid_iff.1 hp
 have q2:=V3.valid_iff.1 hs
 simp only[V3.add]at q2
 have val:∀x y w:Int,(p.x<=x/\x<=p.x+s.x)->(p.y<=y/\y<=p.y+s.y)->(p.z<=w/\w<=p.z+s.z)->(⟨x,y,w⟩:V3).valid=true:=λx y w a b c=>by
  rw[V3.valid_iff];simp only;omega
 have v0:=val p.x p.y p.z (by omega) (by omega) (by omega)
 have v1:=val (p.x+s.x) p.y p.z (by omega) (by omega) (by omega)
 have v2:=val p.x (p.y+s.y) p.z (by omega) (by omega) (by omega)
 have v3:=val (p.x+s.x) (p.y+s.y) p.z (by omega) (by omega) (by omega)
 have v4:=val p.x p.y (p.z+s.z) (by omega) (by omega) (by omega)
 have v5:=val (p.x+s.x) p.y (p.z+s.z) (by omega) (by omega) (by omega)
 have v6:=val p.x (p.y+s.y) (p.z+s.z) (by omega) (by omega) (by omega)
 have v7:=val (p.x+s.x) (p.y+s.y) (p.z+s.z) (by omega) (by omega) (by omega)
 have n1:¬ z<p.z:=by omega
 have n2:¬ p.z+s.z<=z:=by omega
 have sm:=λc=>Qj4 c p.z (p.z+s.z) z z1 z2
 obtain⟨L,hL⟩:∃L,egs (Zv ⟨Qb p s,Qi⟩ z Qi)=L:=⟨_,rfl⟩
 rw[hL]
 simp[egs,Zv,Jt,Qi,Mesh.v,Qb,Q5q,Jh,Sg4.init,Sg4.step,Sg4.eg,point,v0,v1,v2,v3,v4,v5,v6,v7,z1,z2,n1,n2,sm]at hL
 have hy:=Q8u (c0:=p.y) (c1:=p.y+s.y) z1 z2
 generalize Q5r p.x (p.x+s.x) p.z (p.z+s.z) z=a at hL
 generalize Q5r p.y (p.y+s.y) p.z (p.z+s.z) z=q at hL hy
 rw[<- hL]
 simp only[Ez,wnd_nil]
 rw[U0,U0,U0,U0,Qga (by omega),Qga (by omega),Qg9 (by omega),Qg9 (by omega)]
 constructor
 ·intro h
  by_cases c1:p.y<=P.y/\P.y<q<;>by_cases c2:q<=P.y/\P.y<p.y+s.y<;>by_cases c3:P.x<p.x<;>by_cases c4:P.x<p.x+s.x<;>simp[c1,c2,c3,c4]at h<;>omega
 ·rintro⟨⟨c3,c4⟩,c1,c2⟩
  by_cases c5:P.y<q
  ·rw[if_neg (by omega),if_neg (by omega),if_neg (by omega),if_pos ⟨c1,c5,c4⟩];omega
  ·rw[if_neg (by omega),if_neg (by omega),if_pos ⟨by omega,c2,c4⟩,if_neg (by omega)];omega
def Yc (x y w d:Int):List Rw:=(List.range d.toNat).map λ(i:Nat)=>⟨y+i,[⟨x,x+w⟩]⟩
theorem Q7q {x y w d:Int} (hw:1<=w):RgV (Yc x y w d):=by
 refine⟨λr hr=>?_,λr hr=>?_,?_⟩
 ·obtain⟨i,_,rfl⟩:=qo.1 hr
  exact⟨by simp;omega,by simp⟩
 ·obtain⟨i,_,rfl⟩:=qo.1 hr
  simp
 ·unfold Yc
  rw[jd]
  exact List.pairwise_lt_range.imp λ{a b} h=>by simp only[];omega
theorem in_rectR {x y w d b a:Int}:Wb (Yc x y w d) b a↔(y<=b/\b<y+d)/\x<=a/\a<x+w:=by
 constructor
 ·rintro⟨r,hr,rfl,hx⟩
  obtain⟨i,hi,rfl⟩:=qo.1 hr
  have:=qy.1 hi
  rw[inRns_cons]at hx
  simp only[Qk,or_false]at hx
  exact⟨by simp only[];omega,hx⟩
 ·rintro⟨h1,h2⟩
  refine⟨⟨y+((b-y).toNat:Int),[⟨x,x+w⟩]⟩,qo.2 ⟨(b-y).toNat,qy.2 (by omega),rfl⟩,by simp only[];omega,inRns_cons.2 (.inl h2)⟩
theorem U2 {x X k:Int} (hk:2<=k):x*k<=X*k+k / 2↔x<=X:=by
 constructor
 ·intro h
  refine j7 λhn=>?_
  have h2:=jg (show X+1<=x by omega) (show 0<=k by omega)
  have e:(X+1)*k=X*k+k:=by grind
  omega
 ·intro h
  have h2:=jg h (show 0<=k by omega)
  omega
theorem box_ras {x y w d k:Int} {p s:V3} (hw:1<=w) (hd:1<=d) (hk:32<=k) (hx:-4096<=x/\x+w<=4096) (hy:-4096<=y/\y+d<=4096) (px:p.x=x*k) (py:p.y=y*k) (sx:s.x=w*k) (sy:s.y=d*k)
  (h3:1<=s.z) (hp:p.valid=true) (hs:(p.add s).valid=true) {z:Int} (z1:p.z<=z) (z2:z<p.z+s.z):Uc (egs (Zv ⟨Qb p s,Qi⟩ z Qi)) k=Yc x y w d:=by
 have hwk:k<=w*k:=by have:=jg hw (show 0<=k by omega);omega
 have hdk:k<=d*k:=by have:=jg hd (show 0<=k by omega);omega
 unfold Uc
 refine (Q6s (Q7q hw) λb a=>?_).symm
 rw[decide_eq_true_eq,box_wnd (by omega) (by omega) h3 hp hs z1 z2,in_rectR]
 have e1:(ctr k b a).x=a*k+k / 2:=rfl
 have e2:(ctr k b a).y=b*k+k / 2:=rfl
 rw[e1,e2,px,py,sx,sy,U2 (by omega),U2 (by omega)]
 have f1:x*k+w*k=(x+w)*k:=by grind
 have f2:y*k+d*k=(y+d)*k:=by grind
 have g1:a*k+k / 2<(x+w)*k↔a<x+w:=by
  have:=U2 (x:=x+w) (X:=a) (k:=k) (by omega)
  omega
 have g2:b*k+k / 2<(y+d)*k↔b<y+d:=by
  have:=U2 (x:=y+d) (X:=b) (k:=k) (by omega)
  omega
 rw[f1,f2,g1,g2]
 constructor
 ·rintro⟨c1,c2⟩
  exact⟨by omega,by omega,c2,c1⟩
 ·rintro⟨_,_,c2,c1⟩
  exact⟨c1,c2⟩
theorem Qn9 {h n:Int} (hh:4<=h) (hev:h % 2=0) (hn:1<=n):Q8c (n*h) h=n.toNat:=by
 have key:∀i:Nat,i<Q8c (n*h) h↔i<n.toNat:=λi=>by
  rw[Q8b (by omega)]
  have:=U2 (x:=n) (X:=(i:Int)) (k:=h) (by omega)
  omega
 have a:=key (Q8c (n*h) h)
 have b:=key n.toNat
 omega
theorem Qer {x y w d n k h:Int} {p s:V3} (hw:1<=w) (hd:1<=d) (hk:Zh k 32 1024=true) (hh:Zh h 4 1024=true) (hx:-4096<=x/\x+w<=4096) (hy:-4096<=y/\y+d<=4096) (px:p.x=x*k) (py:p.y=y*k) (pz:p.z=0) (sx:s.x=w*k) (sy:s.y=d*k) (sz:s.z=n*h)
  (hn:1<=n) (hn2:n<=256) (hp:p.valid=true) (hs:(p.add s).valid=true):Ws [⟨Qb p s,Qi⟩] k h=(List.replicate n.toNat (Yc x y w d),0):=by
 have hk2:32<=k:=by
  unfold Zh at hk
  simp only[Bool.and_eq_true,decide_eq_true_eq]at hk
  exact hk.1.1
 have hh2:4<=h/\h % 2=0:=by
  unfold Zh at hh
  simp only[Bool.and_eq_true,decide_eq_true_eq]at hh
  exact⟨hh.1.1,hh.2⟩
 have hwk:k<=w*k:=by have:=jg hw (show 0<=k by omega);omega
 have hdk:k<=d*k:=by have:=jg hd (show 0<=k by omega);omega
 have hnh:h<=n*h:=by have:=jg hn (show 0<=h by omega);omega
 obtain⟨b1,b2⟩:=box_ok (p:=p) (s:=s) (by omega) (by omega) (by omega) hp hs
 have hclo:=(Q6t (p:=p) (s:=s) (by omega) (by omega) (by omega) hp hs).a
 have q2:=V3.valid_iff.1 hs
 simp only[V3.add]at q2
 have hzs:∀z∈Xt h n.toNat,0<=z/\z<n*h:=λz hz=>by
  unfold Xt at hz
  obtain⟨i,hi,rfl⟩:=qo.1 hz
  have:=qy.1 hi
  have h1:0<=(i:Int)*h:=Int.mul_nonneg (by omega) (by omega)
  have h2:=U2 (x:=n) (X:=(i:Int)) (k:=h) (by omega)
  omega
 have hsl:∀z∈Xt h n.toNat,Zb ⟨Qb p s,Qi⟩ z k=(Yc x y w d,0):=λz hz=>by
  have:=hzs z hz
  rw[Q7c hclo (by omega) hk]
  rw[box_ras hw hd hk2 hx hy px py sx sy (by omega) hp hs (by omega) (by omega)]
 have hlo:(bLo (Qb p s)).z=0:=by
  simp[Qb,bLo,Q5t,pz]
  omega
 have hhi:(bHi (Qb p s)).z=n*h:=by
  simp[Qb,bHi,Q0l,pz,sz]
  omega
 have hpart:Jc ⟨Qb p s,Qi⟩ k h=(List.replicate n.toNat (Yc x y w d),0):=by
  have hg:El (n*h) h=(Xt h n.toNat,0):=by
   unfold El
   rw[if_neg (by rw[hh];simp),Qn9 hh2.1 hh2.2 hn,if_neg (by omega)]
  unfold Jc
  rw[if_neg (by simp[b2]),if_neg (by simp[Qb]),hlo,hhi,if_neg (by omega),hg,if_neg (by simp)]
  rw[I3 λz hz=>by rw[hsl z hz]]
  congr 1
  refine qx λi=>?_
  rw[qp,je]
  by_cases hi:i<n.toNat
  ·obtain⟨z,hq⟩:∃z,(Xt h n.toNat)[i]?=some z:=⟨_,q9 (by rw[K9];exact hi)⟩
   rw[if_pos hi,hq]
   simp only[Option.map_some]
   rw[hsl _ (qb hq)]
  ·rw[if_neg hi,qk (by rw[K9];omega)];rfl
 have hrb:RgB (Yc x y w d):=λb a hba=>by
  have:=in_rectR.1 hba
  omega
 unfold Ws
 rw[if_neg (by rw[hk,hh];simp)]
 unfold Q4d
 rw[hpart,if_neg (by simp)]
 unfold Q4d
 simp only
 rw[Qkj λg hg=>by rw[(List.mem_replicate.1 hg).2];exact⟨Q7q hw,hrb⟩]
def Qpj (P:Program) (f:FuncId):Prop:=∀x y w d:Int,(-10000<=x/\x<=10000)->(-10000<=y/\y<=10000)->(0<=w/\w<=10000)->(0<=d/\d<=10000)->CallIs P f [.i .i64 x,.i .i64 y,.i .i64 w,.i .i64 d] (rgV (Yc x y w d))
theorem Q6b {α β γ:Type} {f:β->Option γ} {g:α->β} {k:α->γ}:∀{l:List α},(∀a∈l,f (g a)=some (k a))->(l.map g).mapM f=some (l.map k)
 | [],_=>rfl
 | a::l,h=>by
   have ih:=Q6b (f:=f) (g:=g) (k:=k) (l:=l) λb hb=>h b (by simp[hb])
   simp only[List.map_cons,List.mapM_cons,h a (by simp),ih]
   rfl
def rcE (x y w:Int) (j:Nat):List V:=[.i .i64 (y+j),.own (3+j) 1 0 1]
def rcO (x w:Int):O:=.arr 1 2 [[.i .i64 x,.i .i64 (x+w)]]
theorem rcE_cl (x y w:Int) {i n:Nat} (h:i+3<=n):∀el∈(List.range i).map (rcE x y w),∀c∈el,c.cl n=true:=λel hel c hc=>by
 obtain⟨j,hj,rfl⟩:=qo.1 hel
 have:=qy.1 hj
 simp[rcE]at hc
 rcases hc with rfl | rfl
 ·rfl
 ·simp[V.cl,V.cl1,V.cl0];omega
theorem Qli (x w:Int):∀(i n:Nat) (l:List O),WeakH n (List.replicate i (rcO x w)++l) (List.replicate i (rcO x w))
 | 0,n,l=>by simp[WeakH]
 | i+1,n,l=>by
   rw[List.replicate_succ]
   exact⟨.inr ⟨rfl,by simp[rcO,O.cl,V.cl,V.cl1,V.cl0]⟩,Qli x w i n l⟩
section
variable {P:Program} (hm:P.follows .mixedOrders=true)
include hm
theorem Ei {f:FuncId} (hf:Q9 P f L09.c L09.r L09.n):Qpj P f:=by
 intro x y w d hx hy hw hd
 obtain⟨D,rfl⟩:∃D:Nat,d=D:=⟨d.toNat,by omega⟩
 refine PureC.is (Qlk hm hf (qh rfl) ?_) rfl
 unfold L09.c
 simp[go_sem]
 refine Qz [.c 1 0 0 2] (α:=Nat) (λi=>i<=D)
  (λi=>⟨[(0,.i .i64 x),(1,.i .i64 y),(2,.i .i64 w),(3,.i .i64 D),(8,.p 0 1 0 0),(9,.p 1 1 0 0),(10,.i .i64 i)],.arr 1 1 [[.nil]]::.arr 1 1 [[.own 2 (i+1) 0 i]]::.arr (i+1) 2 ((List.range i).map (rcE x y w))::List.replicate i (rcO x w)⟩)
  (λi=>D-i) 0 (Nat.zero_le _) ?_ ?_
 ·simp[go_sem]
 intro i hi
 by_cases hil:i=D
 ·subst hil
  simp[go_sem,L09.r]
  have ht:List.take i ((List.range i).map (rcE x y w))=(List.range i).map (rcE x y w):=qe (by simp)
  rw[ht,Q6b (k:=λ(j:Nat)=>[.i .i64 (y+j),.l 2 [[.i .i64 x,.i .i64 (x+w)]]]) λj hj=>by
   have hji:=qy.1 hj
   have hg:∀A B C:O,(A::B::C::List.replicate i (rcO x w))[3+j]?=some (rcO x w):=λA B C=>by
    rw[show 3+j=j+1+1+1 by omega]
    simp[hji]
   simp only[rcE,List.mapM_cons,List.mapM_nil,Uj,X6,hg,V.isD]
   simp[rcO,V.isD]]
  simp[rgV,Yc,Rw.cs,Qj,Rn.cs,Y6]
 have hlt:i<D:=by omega
 have ht:List.take i ((List.range i).map (rcE x y w))=(List.range i).map (rcE x y w):=qe (by simp)
 have hgi:∀a b:O,(List.replicate i (rcO x w)++[a,b])[i+1]?=some b:=λa b=>by
  rw[qf (by simp)];simp
 simp (disch:=omega) [go_sem,hlt,ht,hgi,Q3]
 refine⟨⟨by omega,by omega⟩,i+1,by omega,by omega,by omega,by omega,rfl,⟨⟨rfl,?_⟩,λa ha c hc=>rcE_cl x y w (i:=i+1) (by omega) _ (List.mem_map_of_mem (qy.2 ha)) c hc⟩,?_⟩
 ·rw[List.range_succ,qw]
  simp[rcE]
  omega
 ·have e:∀b:O,List.replicate i (rcO x w)++[rcO x w,b]=List.replicate (i+1) (rcO x w)++[b]:=λb=>by
   rw[List.replicate_succ'];simp
  have e2:=e (O.arr 1 2 [[V.i IntKind.i64 (y+↑i),V.own (i+1+1+1) 1 0 1]])
  have:=Qli x w (i+1) (i+1+1+1+1) [O.arr 1 2 [[V.i IntKind.i64 (y+↑i),V.own (i+1+1+1) 1 0 1]]]
  rw[<- e2]at this
  exact this
end
theorem rectR_b {x y w d:Int} (hx:-4096<=x/\x+w<=4096) (hy:-4096<=y/\y+d<=4096):RgB (Yc x y w d):=λb a hba=>by
 have:=in_rectR.1 hba
 omega
def exMesh:Mesh:=⟨Qb ⟨0,0,0⟩ ⟨80,40,40⟩,Qi⟩
theorem Q5o (s:Sett) (h1:s.pitch=40) (h2:s.height=20):Ws [exMesh] s.pitch s.height=([Yc 0 0 2 1,Yc 0 0 2 1],0):=by
 rw[h1,h2]
 exact Qer (x:=0) (y:=0) (w:=2) (d:=1) (n:=2) (p:=⟨0,0,0⟩) (s:=⟨80,40,40⟩) (by omega) (by omega) (by decide) (by decide) (by omega) (by omega) rfl rfl rfl rfl rfl rfl (by omega) (by omega) (by decide) (by decide)
section
variable {P:Program} (hm:P.follows .mixedOrders=true)
include hm
theorem Q3t {f fh fb fs fr fe:FuncId} (hf:Q9 P f (L0a.c fh fb fs fr fe) L0a.r L0a.n) (hh:Qcf P fh) (hb:BoxC P fb) (hs:Q99 P fs) (hr:Qpj P fr) (he:Qf2 P fe):Qfe P f:=by
 have c1:=hh 40 20 (by omega) (by omega)
 rw[show El 40 20=([10,30],0) by decide]at c1
 have c2:=hb ⟨0,0,0⟩ ⟨80,40,40⟩ (by decide) (by decide)
 rw[show Qc2 ⟨0,0,0⟩ ⟨80,40,40⟩=Q3p exMesh 0 by rfl]at c2
 have c3:=hs [exMesh] ⟨40,20,0,0,0,0,0,false,0,0,0,0,0,0,0,0,0,0,0,0⟩ (by simp)
 rw[Q5o _ rfl rfl]at c3
 have c4:=hr 0 0 2 1 (by omega) (by omega) (by omega) (by omega)
 have hv:RgV (Yc 0 0 2 1)/\RgB (Yc 0 0 2 1):=⟨Q7q (by omega),rectR_b (by omega) (by omega)⟩
 have hvs:Ky [Yc 0 0 2 1,Yc 0 0 2 1]:=λg hg=>by
  simp at hg
  rw[hg];exact hv
 have c5:=he [Yc 0 0 2 1,Yc 0 0 2 1] [Yc 0 0 2 1,Yc 0 0 2 1] hvs hvs (by simp) (by simp)
 rw[decide_eq_true rfl]at c5
 have hmc:exMesh.cs.length=2:=rfl
 have hmt:List.take 2 exMesh.cs=exMesh.cs:=rfl
 have hmd:∀x∈exMesh.cs,x.isD=true:=by
  intro x hx
  simp[Mesh.cs]at hx
  rcases hx with rfl | rfl<;>rfl
 have hmcl:∀n,∀x∈exMesh.cs,x.cl n=true:=λn x hx=>Kk n (hmd x hx)
 unfold Q3p Mesh.enc at c2
 unfold msV Sett.enc Sett.cs at c3
 simp only at c3
 generalize exMesh=m at *
 generalize Yc 0 0 2 1=R at *
 refine PureC.is (Q8 hm hf (qh rfl) ?_) rfl
 unfold L0a.c
 simp[go_sem]
 refine Q5 c1 ?_
 simp[go_sem,isV]
 refine Q5 c2 ?_
 simp[go_sem,V.cells,V.okA,hmc,hmt]
 have hma:∀x∈m.cs,x.isD=true:=hmd
 refine Ya (vs:=[.l 2 [m.cs],.a [.i .i64 40,.i .i64 20,.i .i64 0,.i .i64 0,.i .i64 0,.i .i64 0,.i .i64 0,.b false,.i .i64 0,.i .i64 0,.i .i64 0,.i .i64 0,.i .i64 0,.i .i64 0,.i .i64 0,.i .i64 0,.i .i64 0,.i .i64 0,.i .i64 0,.i .i64 0]]) (by
  simp[X5,frz,X6]
  rw[if_pos hma];rfl) c3 ?_
 simp[go_sem,V.ids2,V.ids1,V.ids0,Q3v,Xr]
 refine Q5 c4 ?_
 simp[go_sem]
 refine Q5 c4 ?_
 simp[go_sem,rgV]
 refine Ya (vs:=[Ju [R,R],Ju [R,R]]) (by simp[X5,frz,X6,Xr,rgE,rwL,V.isD]) c5 ?_
 simp[go_sem,L0a.r]
end
theorem Qhz (e:Int):Le (.t [.nil,.i .i64 e]) (.t [Qs [],.i .i64 e]):=.inr ⟨_,_,rfl,rfl,.inl (Le0.nil 1),Le1.refl _,trivial⟩
theorem Qap {p:P2} (h:(-65536<=p.x/\p.x<=65536)/\-65536<=p.y/\p.y<=65536):p.valid=true:=P2.valid_iff.2 ⟨by omega,by omega,by omega,by omega⟩
theorem Q60 {l:List Sg4} (h:Qgj l) {s:Sg4} (hs:s∈l):s.eg.1.valid=true/\s.eg.2.valid=true:=by
 obtain⟨a,b,c,d⟩:=h.2 s.eg (qo.2 ⟨s,hs,rfl⟩)
 exact⟨Qap ⟨a,b⟩,Qap ⟨c,d⟩⟩
theorem Qfm (s:Sg4):s.eg.1.enc=.a [.i .i64 s.a.1,.i .i64 s.a.2]:=rfl
theorem Qfl (s:Sg4):s.eg.2.enc=.a [.i .i64 s.b.1,.i .i64 s.b.2]:=rfl
theorem Xl {h l:List O} {id:Nat} (hid:id<h.length):(h++l)[id]?=h[id]?:=qd hid
theorem B5 {h l:List O} {id:Nat} (hid:id<h.length) (o:O):(h++l).set id o=h.set id o++l:=List.set_append_left _ _ hid
end Go.Abs
