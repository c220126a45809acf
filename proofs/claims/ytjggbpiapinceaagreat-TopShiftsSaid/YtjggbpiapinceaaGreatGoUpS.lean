/- Part of the library on which the proof stands: an abstract machine, its values and its soundness against the model; or what functions of the program do to such values. -/
import Derived.Test.YtjggbpiapinceaaGreatGoSkJ
import Derived.Test.YtjggbpiapinceaaGreatGoOy
import Derived.Test.YtjggbpiapinceaaGreatGoSkC
import Derived.Test.YtjggbpiapinceaaGreatGoBl
import Derived.Test.YtjggbpiapinceaaGreatGoRsA
import Derived.Test.YtjggbpiapinceaaGreatGoShpD
import Derived.Test.YtjggbpiapinceaaGreatGoUpC
import Derived.Test.YtjggbpiapinceaaGreatGoShpO
import Derived.Test.YtjggbpiapinceaaGreatAbsSP
set_option linter.unusedVariables false
set_option linter.unusedSimpArgs false
set_option maxHeartbeats 16000000
set_option maxRecDepth 20000
namespace Go.Abs
def InvC (P:Program) (f:FuncId):Prop:=∀m:Mesh,m.check=0->CallIs P f [m.enc] (.b m.inv)
def ChkC (P:Program) (f:FuncId):Prop:=∀m:Mesh,CallIs P f [m.enc] (.i .i64 (Q03 m))
def NoneTo {α:Type} (p:α->Bool) (l:List α) (k:Nat):Prop:=(l.take k).any p=false
theorem NoneTo.zero {α:Type} (p:α->Bool) (l:List α):NoneTo p l 0:=by simp[NoneTo]
theorem NoneTo.all {α:Type} {p:α->Bool} {l:List α} (h:NoneTo p l l.length):l.any p=false:=by unfold NoneTo at h;rwa [qi]at h
theorem Q89 {α:Type} (p:α->Bool) {l:List α} {k:Nat} {a:α} (h:l[k]?=some a) (hn:NoneTo p l k) (ha:p a=false):NoneTo p l (k+1):=by
 unfold NoneTo at *
 rw[Qf h,List.any_append,hn];simp[ha]
theorem Qef {α:Type} (p:α->Bool) {l:List α} {k:Nat} {a:α} (h:l[k]?=some a) (ha:p a=true):l.any p=true :=
 List.any_eq_true.2 ⟨a,qb h,ha⟩
theorem degI_at {m:Mesh} (hz:m.check=0) {k:Nat} {t:T3} (h:m.tris[k]?=some t):m.degI (k:Int)=m.deg t:=by
 have hl:=(q8.1 h).1
 unfold Mesh.degI
 rw[if_pos ⟨by omega,by omega,hz⟩,Int.toNat_natCast,h]
theorem chkR_1 {m:Mesh} (h:m.check≠0):Q03 m=m.check:=by unfold Q03;rw[if_pos h]
theorem chkR_2 {m:Mesh} (h:m.check=0) (h2:m.closed=false):Q03 m=12:=by unfold Q03;rw[if_neg (by simpa using h),if_pos h2]
theorem chkR_3 {m:Mesh} (h:m.check=0) (h2:m.closed=true) (h3:Q01 m.tris=false):Q03 m=13:=by unfold Q03;rw[if_neg (by simpa using h),if_neg (by rw[h2];simp),if_pos h3]
theorem chkR_4 {m:Mesh} (h:m.check=0) (h2:m.closed=true) (h3:Q01 m.tris=true):Q03 m=if m.tris.any m.deg=true then 1 else if m.inv=true then 1 else 0:=by
 unfold Q03;rw[if_neg (by simpa using h),if_neg (by rw[h2];simp),if_neg (by rw[h3];simp)]
theorem Qm7 {m:Mesh} (h:m.check=0):m.coh=Q01 m.tris:=by unfold Mesh.coh;rw[h];simp
section
variable {P:Program} (hm:P.follows .mixedOrders=true)
include hm
theorem Uo {f fs fv:FuncId} (hf:Qa P f (L10.c fs fv) L10.r L10.n) (hs:Q7n P fs) (hv:VolC P fv):InvC P f:=by
 intro m hz
 obtain⟨z1,z2,z3,z4⟩:=Mesh.check_zero.1 hz
 have hok:=Qfh hz
 have hs1:=hs m
 unfold Mesh.inv
 generalize m.shells=shs at *
 generalize hp:(λsh=>decide (Yv m.verts (Zi m.tris sh)<0))=p
 generalize hB:shs.any p=B
 refine PureC.is (Q8 hm hf (qh rfl) ?_) rfl
 unfold L10.c
 simp[go_sem,Mesh.enc,Mesh.cs,vsV,tsV]
 refine Q5 hs1 ?_
 simp[go_sem,lsV]
 have hsv:∀(n:Nat) (a:V3),List.map (V.sh1 n) a.cs=a.cs:=λn a=>by simp[vcs,V.sh1,V.sh0]
 have hst:∀(n:Nat) (a:T3),List.map (V.sh1 n) a.cs=a.cs:=λn a=>by simp[tcs,V.sh1,V.sh0]
 refine Qj (α:=Nat) (λk=>k<=shs.length/\NoneTo p shs k)
  (λk=>⟨[(1,.p 0 1 0 0),(9,lsV shs),(10,.i .i64 shs.length),(11,.i .i64 k)],
   [.arr 1 2 [m.cs]]⟩)
  (λk=>shs.length-k) 0 ⟨Nat.zero_le _,NoneTo.zero _ _⟩ ?_ ?_
 ·simp[go_sem,lsV,Mesh.cs,vsV,tsV,Q87,Un,hsv,hst]
 ·rintro k ⟨hk,hno⟩
  by_cases hkl:k=shs.length
  ·subst hkl
   obtain rfl:=hB.symm.trans hno.all
   simp[go_sem,lsV,L10.r]
  ·have hlt:k<shs.length:=by omega
   have hnum:=hok.num
   have hq:shs[k]?=some shs[k]:=q9 hlt
   have hmw:shs[k]∈shs:=List.getElem_mem _
   generalize shs[k]=sh at hq hmw
   obtain⟨_,hq'⟩:=q8.1 hq
   have hshl:=hok.len sh hmw
   have hshm:=hok.mem sh hmw
   simp[go_sem,lsV,hlt,hq,hq',Mesh.cs,vsV,tsV,isV]
   refine Zg [.c 1 0 1 3] (α:=Nat) (λj=>j<=sh.length)
    (λj=>⟨[(1,.p 0 1 0 0),(4,isV sh),(5,.p 1 1 0 0),(9,lsV shs),(10,.i .i64 shs.length),(11,.i .i64 k),(18,isV sh),(19,.i .i64 sh.length),(20,.i .i64 j)],
     [.arr 1 2 [m.cs],.arr 1 2 [[vsV m.verts,.own 2 (j+1) 0 j]],.arr (j+1) 3 ((Zi m.tris (sh.take j)).map T3.cs)]⟩)
    (λj=>sh.length-j) 0 (Nat.zero_le _) ?_ ?_
   ·simp[go_sem,lsV,isV,Zi,Mesh.cs,vsV,tsV,Q87,Un]
   ·intro j hj
    by_cases hjl:j=sh.length
    ·subst hjl
     rw[qi]
     have hpl:=Q2f m.tris sh
     have hvol:=hv ⟨m.verts,Zi m.tris sh⟩
     have hve:(Mesh.mk m.verts (Zi m.tris sh)).vol6=Yv m.verts (Zi m.tris sh):=by unfold Mesh.vol6;rw[if_pos (Qbl hz hshl hshm)]
     rw[hve]at hvol
     have hps:p sh=decide (Yv m.verts (Zi m.tris sh)<0):=by rw[<- hp]
     generalize Zi m.tris sh=PT at *
     have htkp:List.take sh.length (PT.map T3.cs)=PT.map T3.cs:=qe (by simp;omega)
     simp[go_sem,lsV,isV]
     refine X9 (vs:=[(Mesh.mk m.verts PT).enc]) ?_ hvol ?_
     ·simp[go_sem,Je,frz,Xj,Mesh.enc,Mesh.cs,vsV,tsV,El,htkp,hpl]
     ·by_cases hneg:Yv m.verts PT<0
      ·have ha:shs.any p=true:=Qef p hq (by rw[hps];simpa using hneg)
       obtain rfl:=hB.symm.trans ha
       simp (disch:=omega) [go_sem,vsV,tsV,hneg,L10.r]
      ·have ha:=Q89 p hq hno (by rw[hps];simpa using hneg)
       simp (disch:=omega) [go_sem,vsV,tsV,hneg,Q3]
       refine⟨k+1,⟨by omega,ha⟩,by omega,?_⟩
       simp (disch:=omega) [go_sem,lsV,Mesh.cs,vsV,tsV,Q87,Un,Q3]
    ·have hjlt:j<sh.length:=by omega
     have hq2:sh[j]?=some sh[j]:=q9 hjlt
     have hqm:sh[j]∈sh:=List.getElem_mem _
     have hpj:=λv (h:sh[j]?=some v)=>Q93 (ts:=m.tris) h
     generalize sh[j]=v at hq2 hqm
     have hpj:=hpj v hq2
     obtain⟨_,hq2'⟩:=q8.1 hq2
     obtain⟨v0,v1⟩:=hshm v hqm
     have v2:v.toNat<m.tris.length:=by omega
     have ht:=Zn v2
     have hpl:=Q2f m.tris (sh.take j)
     rw[qv,Nat.min_eq_left (by omega)]at hpl
     generalize tAt m.tris v.toNat=t at ht hpj
     obtain⟨_,ht'⟩:=q8.1 ht
     generalize hPT:Zi m.tris (sh.take j)=PT at *
     have htkp:List.take j (PT.map T3.cs)=PT.map T3.cs:=qe (by simp;omega)
     simp (disch:=omega) [go_sem,lsV,isV,Mesh.cs,vsV,tsV,hjlt,hq2,hq2',v0,v1,v2,ht,ht',tcs,htkp,hpl,Q3]
     refine⟨⟨by omega,by omega⟩,j+1,by omega,by omega,?_⟩
     rw[hpj]
     exact⟨by omega,rfl,by rw[qw];rfl⟩
theorem Q0p {f fc fl fh fd fi:FuncId} (hf:Qa P f (L0z.c fc fl fh fd fi) L0z.r L0z.n) (hc:Jl P fc) (hl:Q7y P fl) (hh:Q0c P fh) (hd:DegC P fd) (hi:InvC P fi):ChkC P f:=by
 intro m
 have hl1:=hl m
 have hh1:=hh m
 by_cases hz:m.check=0
 case neg =>
  rw[chkR_1 hz]
  refine PureC.is (Q8 hm hf (qh rfl) ?_) rfl
  unfold L0z.c
  simp[go_sem,Mesh.enc,Mesh.cs]
  refine Q5 (hc m) ?_
  simp[go_sem,hz,L0z.r]
 obtain⟨z1,z2,z3,z4⟩:=Mesh.check_zero.1 hz
 rw[Qm7 hz]at hh1
 by_cases hcl:m.closed=false
 case pos =>
  rw[chkR_2 hz hcl]
  rw[hcl]at hl1
  refine PureC.is (Q8 hm hf (qh rfl) ?_) rfl
  unfold L0z.c
  simp[go_sem,Mesh.enc,Mesh.cs]
  refine Q5 (hc m) ?_
  simp[go_sem,hz]
  refine Q5 hl1 ?_
  simp[go_sem,L0z.r]
 have hcl':m.closed=true:=by simpa using hcl
 rw[hcl']at hl1
 by_cases hco:Q01 m.tris=false
 case pos =>
  rw[chkR_3 hz hcl' hco]
  rw[hco]at hh1
  refine PureC.is (Q8 hm hf (qh rfl) ?_) rfl
  unfold L0z.c
  simp[go_sem,Mesh.enc,Mesh.cs]
  refine Q5 (hc m) ?_
  simp[go_sem,hz]
  refine Q5 hl1 ?_
  simp[go_sem]
  refine Q5 hh1 ?_
  simp[go_sem,L0z.r]
 have hco':Q01 m.tris=true:=by simpa using hco
 rw[hco']at hh1
 rw[chkR_4 hz hcl' hco']
 generalize hA:m.tris.any m.deg=A
 refine PureC.is (Q8 hm hf (qh rfl) ?_) rfl
 unfold L0z.c
 simp[go_sem,Mesh.enc,Mesh.cs,vsV,tsV]
 refine Q5 (hc m) ?_
 simp[go_sem,hz]
 refine Q5 hl1 ?_
 simp[go_sem]
 refine Q5 hh1 ?_
 have hsv:∀(n:Nat) (a:V3),List.map (V.sh1 n) a.cs=a.cs:=λn a=>by simp[vcs,V.sh1,V.sh0]
 have hst:∀(n:Nat) (a:T3),List.map (V.sh1 n) a.cs=a.cs:=λn a=>by simp[tcs,V.sh1,V.sh0]
 simp[go_sem]
 refine Qj (α:=Nat) (λk=>k<=m.tris.length/\NoneTo m.deg m.tris k)
  (λk=>⟨[(1,.p 0 1 0 0),(18,.i .i64 m.tris.length),(19,.i .i64 k)],[.arr 1 2 [m.cs]]⟩)
  (λk=>m.tris.length-k) 0 ⟨Nat.zero_le _,NoneTo.zero _ _⟩ ?_ ?_
 ·simp[go_sem,Mesh.cs,vsV,tsV,Q87,Un,hsv,hst]
 ·rintro k ⟨hk,hno⟩
  by_cases hkl:k=m.tris.length
  ·subst hkl
   obtain rfl:=hA.symm.trans hno.all
   have hi1:=hi m hz
   simp[go_sem,Mesh.cs,vsV,tsV]
   refine Q5 hi1 ?_
   cases hin:m.inv<;>simp[go_sem,L0z.r]
  ·have hlt:k<m.tris.length:=by omega
   have hq:=Zn hlt
   have hdk:=hd m (k:Int)
   rw[degI_at hz hq]at hdk
   simp[go_sem,hlt,Mesh.cs,vsV,tsV]
   refine Q5 hdk ?_
   cases hdg:m.deg (tAt m.tris k) with
   | true =>
     have ha:m.tris.any m.deg=true:=Qef _ hq hdg
     obtain rfl:=hA.symm.trans ha
     simp[go_sem,L0z.r]
   | false =>
     have ha:=Q89 _ hq hno hdg
     simp (disch:=omega) [go_sem,Q3]
     refine⟨k+1,⟨by omega,ha⟩,by omega,?_⟩
     simp[go_sem,Mesh.cs,vsV,tsV,Q87,Un]
end
theorem Q4t {α β γ:Type} {f:β->Option γ} {g:α->β} {k:α->γ}:∀{l:List α},(∀a∈l,f (g a)=some (k a))->(l.map g).mapM f=some (l.map k)
 | [],_=>rfl
 | a::l,h=>by
   have ih:=Q4t (f:=f) (g:=g) (k:=k) (l:=l) λb hb=>h b (by simp[hb])
   simp only[List.map_cons,List.mapM_cons,h a (by simp),ih]
   rfl
def rcE (x y w:Int) (j:Nat):List V:=[.i .i64 (y+j),.own (3+j) 1 0 1]
def rcO (x w:Int):O:=.arr 1 2 [[.i .i64 x,.i .i64 (x+w)]]
theorem rcE_cl (x y w:Int) {i n:Nat} (h:i+3<=n):∀el∈(List.range i).map (rcE x y w),∀c∈el,c.cl n=true:=λel hel c hc=>by
 obtain⟨j,hj,rfl⟩:=qo.1 hel
 have:=qy.1 hj
 simp[rcE]at hc
 rcases hc with rfl | rfl
 ·rfl
 ·simp[V.cl,V.cl1,V.cl0];omega
theorem Qjf (x w:Int):∀(i n:Nat) (l:List O),WeakH n (List.replicate i (rcO x w)++l) (List.replicate i (rcO x w))
 | 0,n,l=>by simp[WeakH]
 | i+1,n,l=>by
   rw[List.replicate_succ]
   exact⟨.inr ⟨rfl,by simp[rcO,O.cl,V.cl,V.cl1,V.cl0]⟩,Qjf x w i n l⟩
def Kt (x y:Int):V:=.a [.i .i64 x,.i .i64 y]
def Qcx (g:List Rw):V:=match g.head?,g.getLast? with
 | some u,some w=>.t [Kt (bxA g) u.y,Kt (bxZ g) w.y,.b true]
 | _,_=>.t [Kt 0 0,Kt 0 0,.b false]
def Qde (P:Program) (f:FuncId):Prop:=∀g:List Rw,RgV g->RgB g->CallIs P f [rgV g] (Qcx g)
def Iw (P:Program) (f:FuncId):Prop:=∀(g:List Rw) (a b:Int),RgV g->RgB g->RgB (J6 g a b)->(-100<=a/\a<=100)->(-100<=b/\b<=100)->CallIs P f [rgV g,.i .i64 a,.i .i64 b] (.t [rgV (J6 g a b),.i .i64 0])
section
variable {P:Program} (hm:P.follows .mixedOrders=true)
include hm
theorem Q64 {f fv:FuncId} (hf:Qa P f (L0u.c fv) L0u.r L0u.n) (hv:Q1i P fv):Qde P f:=by
 intro g hg hb
 have hll:=hg.len hb
 have c1:=hv g hg hb
 have hbd:=bx_bd hg hb
 refine PureC.is (Q8 hm hf (qh rfl) ?_) rfl
 unfold L0u.c
 by_cases hg0:g=[]
 ·subst hg0
  simp[go_sem,rgV]
  simp only[rgV,List.map_nil]at c1
  refine Q5 c1 ?_
  simp[go_sem,Qcx,Kt,L0u.r]
 obtain⟨n,hn⟩:∃n,g.length=n+1:=⟨g.length-1,by have:=jf.2 hg0;omega⟩
 have hq0:g[0]?=some g[0]:=q9 (by omega)
 have hqn:g[n]?=some g[n]:=q9 (by omega)
 have hG:Qcx g=.t [Kt (bxA g) (g[0]).y,Kt (bxZ g) (g[n]).y,.b true]:=by
  unfold Qcx
  rw[List.head?_eq_getElem?,List.getLast?_eq_getElem?,show g.length-1=n by omega,hq0,hqn]
 rw[hG]
 generalize g[0]=u at *
 generalize g[n]=v at *
 obtain⟨_,hq0'⟩:=q8.1 hq0
 obtain⟨_,hqn'⟩:=q8.1 hqn
 have hnf:((n:Int)+1 == 0)=false:=by simp;omega
 simp[go_sem,rgV]
 unfold rgV at c1
 refine Q5 c1 ?_
 simp (disch:=omega) [go_sem,hn,hnf,hq0,hq0',hqn,hqn',Rw.cs,Q3]
 obtain⟨A,hA⟩:∃A:Nat->Int,∀i,A i=bxA (g.take i):=⟨_,λ_=>rfl⟩
 obtain⟨B,hB⟩:∃B:Nat->Int,∀i,B i=bxZ (g.take i):=⟨_,λ_=>rfl⟩
 have hA0:A 0=4096:=by rw[hA];rfl
 have hB0:B 0=-4096:=by rw[hB];rfl
 have hAn:A (n+1)=bxA g:=by rw[hA,<- hn,qi]
 have hBn:B (n+1)=bxZ g:=by rw[hB,<- hn,qi]
 refine Qj (α:=Nat) (λi=>i<=n+1)
  (λi=>⟨[(1,.p 0 1 0 0),(2,.p 1 1 0 0),(3,.p 2 1 0 0),(5,.p 3 1 0 0),(6,.p 4 1 0 0),(7,.i .i64 i)],[.arr 1 1 [[rwL g]],.arr 1 2 [[.i .i64 0,.i .i64 0]],.arr 1 2 [[.i .i64 0,.i .i64 0]],.arr 1 2 [[.i .i64 (A i),.i .i64 u.y]],.arr 1 2 [[.i .i64 (B i),.i .i64 v.y]]]⟩)
  (λi=>n+1-i) 0 (Nat.zero_le _) ?_ ?_
 ·simp[go_sem,rwL,hA0,hB0]
 intro i hi
 by_cases hil:i=n+1
 ·subst hil
  rw[hAn,hBn]
  simp[go_sem,rwL,hn,Kt,L0u.r]
 have hlt:i<g.length:=by omega
 have hlz:(i:Int)<(n:Int)+1:=by omega
 have hq:g[i]?=some g[i]:=q9 hlt
 have hmem:=qb hq
 have hAs:A (i+1)=min (A i) (rwA g[i]):=by rw[hA,hA,Qf hq,Qmg]
 have hBs:B (i+1)=max (B i) (rwZ g[i]):=by rw[hB,hB,Qf hq,Qmf]
 have hne:=hg.ne _ hmem
 have hri:=hb.rnb hg hmem
 have hrl:=(hg.rs _ hmem).len hri
 generalize g[i]=w at *
 obtain⟨_,hq'⟩:=q8.1 hq
 obtain⟨k,hk⟩:∃k,w.rs.length=k+1:=⟨w.rs.length-1,by have:=jf.2 hne;omega⟩
 have hr0:w.rs[0]?=some w.rs[0]:=q9 (by omega)
 have hrk:w.rs[k]?=some w.rs[k]:=q9 (by omega)
 have hwA:rwA w=(w.rs[0]).a:=by unfold rwA;rw[List.head?_eq_getElem?,hr0];rfl
 have hwZ:rwZ w=(w.rs[k]).b-1:=by unfold rwZ;rw[List.getLast?_eq_getElem?,show w.rs.length-1=k by omega,hrk];rfl
 have hrb:=hri _ (qb hrk)
 have hrb0:=(hg.rs _ hmem).1 _ (qb hrk)
 rw[hwA]at hAs
 rw[hwZ]at hBs
 generalize w.rs[0]=p at *
 generalize w.rs[k]=q at *
 obtain⟨_,hr0'⟩:=q8.1 hr0
 obtain⟨_,hrk'⟩:=q8.1 hrk
 simp (disch:=omega) [go_sem,rwL,hn,hlt,hlz,hq,hq',Rw.cs,Z5,Rn.cs,hk,hr0,hr0',hrk,hrk',Q3]
 exact⟨i+1,by omega,by omega,by omega,by rw[hAs];split<;>omega,by rw[hBs];split<;>omega⟩
end
theorem rectR_b {x y w d:Int} (hx:-4096<=x/\x+w<=4096) (hy:-4096<=y/\y+d<=4096):RgB (W6 x y w d):=λb a hba=>by
 have:=in_rectR.1 hba
 omega
theorem par_pt {ps:List (Bool × List Sch)} {us:List V} (h:X3 ((true,[.i .i64,.i .i64])::ps) us):∃(v:P2) (r:List V),us=v.enc::r/\X3 ps r:=by
 simp only[X3,Q94]at h
 obtain⟨v,r,rfl,⟨cs,rfl,hc⟩,hr⟩:=h
 simp only[okL,Sch.ok]at hc
 obtain⟨_,_,rfl,⟨a,rfl,_⟩,_,_,rfl,⟨b,rfl,_⟩,rfl⟩:=hc
 exact⟨⟨a,b⟩,r,rfl,hr⟩
def Q8k (m:Mesh):Bool:=decide (m.verts.length<=60) && decide (m.tris.length<=60)
def Qah (P:Program) (f:FuncId):Prop:=∀m:Mesh,CallIs P f [m.enc] (.b (Q8k m))
def Q7l (P:Program) (f:FuncId):Prop:=∀x y n:Int,(-10000<=x/\x<=10000)->(-10000<=y/\y<=10000)->(0<=n/\n<=10000)->CallIs P f [.i .i64 x,.i .i64 y,.i .i64 n] (rgV (W6 x y n n))
def exBox:Mesh:=⟨Qd ⟨40,80,0⟩ ⟨120,120,20⟩,Qi⟩
theorem exBox_ok:exBox.check=0/\Q03 exBox=0:=box_ok (by decide) (by decide) (by decide) (by decide) (by decide)
theorem Q9z:Zd exBox 10 40=(W6 1 2 3 3,0):=by
 have hc:=(Q5d (p:=⟨40,80,0⟩) (s:=⟨120,120,20⟩) (by decide) (by decide) (by decide) (by decide) (by decide)).a
 have h:=Q5x (m:=exBox) (z:=10) (k:=40) hc (by omega) (by decide)
 rw[h]
 congr 1
 exact box_ras (x:=1) (y:=2) (w:=3) (d:=3) (p:=⟨40,80,0⟩) (s:=⟨120,120,20⟩) (by omega) (by omega) (by omega) (by omega) (by omega) rfl rfl rfl rfl (by decide) (by decide) (by decide) (by decide) (by decide)
section
variable {P:Program} (hm:P.follows .mixedOrders=true)
include hm
theorem Ky {f:FuncId} (hf:Qa P f L03.c L03.r L03.n):Q7l P f:=by
 intro x y w hx hy hd
 obtain⟨D,rfl⟩:∃D:Nat,w=D:=⟨w.toNat,by omega⟩
 refine PureC.is (Q8y hm hf (qh rfl) ?_) rfl
 unfold L03.c
 simp[go_sem]
 refine Zg [.c 1 0 0 2] (α:=Nat) (λi=>i<=D)
  (λi=>⟨[(0,.i .i64 x),(1,.i .i64 y),(2,.i .i64 D),(6,.p 0 1 0 0),(7,.p 1 1 0 0),(8,.i .i64 i)],.arr 1 1 [[.nil]]::.arr 1 1 [[.own 2 (i+1) 0 i]]::.arr (i+1) 2 ((List.range i).map (rcE x y D))::List.replicate i (rcO x D)⟩)
  (λi=>D-i) 0 (Nat.zero_le _) ?_ ?_
 ·simp[go_sem]
 intro i hi
 by_cases hil:i=D
 ·subst hil
  simp[go_sem,L03.r]
  have ht:List.take i ((List.range i).map (rcE x y i))=(List.range i).map (rcE x y i):=qe (by simp)
  rw[ht,Q4t (k:=λ(j:Nat)=>[.i .i64 (y+j),.l 2 [[.i .i64 x,.i .i64 (x+i)]]]) λj hj=>by
   have hji:=qy.1 hj
   have hg:∀A B C:O,(A::B::C::List.replicate i (rcO x i))[3+j]?=some (rcO x i):=λA B C=>by
    rw[show 3+j=j+1+1+1 by omega]
    simp[hji]
   simp only[rcE,List.mapM_cons,List.mapM_nil,K6,Xj,hg,V.isD]
   simp[rcO,V.isD]]
  simp[rgV,W6,Rw.cs,Z5,Rn.cs,Yk]
 have hlt:i<D:=by omega
 have ht:List.take i ((List.range i).map (rcE x y D))=(List.range i).map (rcE x y D):=qe (by simp)
 have hgi:∀a b:O,(List.replicate i (rcO x D)++[a,b])[i+1]?=some b:=λa b=>by
  rw[qf (by simp)];simp
 simp (disch:=omega) [go_sem,hlt,ht,hgi,Q3]
 refine⟨⟨by omega,by omega⟩,i+1,by omega,by omega,by omega,by omega,rfl,⟨⟨rfl,?_⟩,λa ha c hc=>rcE_cl x y D (i:=i+1) (by omega) _ (jo (qy.2 ha)) c hc⟩,?_⟩
 ·rw[List.range_succ,qw]
  simp[rcE]
  omega
 ·have e:∀b:O,List.replicate i (rcO x D)++[rcO x D,b]=List.replicate (i+1) (rcO x D)++[b]:=λb=>by
   rw[List.replicate_succ'];simp
  have e2:=e (O.arr 1 2 [[V.i IntKind.i64 (y+↑i),V.own (i+1+1+1) 1 0 1]])
  have:=Qjf x D (i+1) (i+1+1+1+1) [O.arr 1 2 [[V.i IntKind.i64 (y+↑i),V.own (i+1+1+1) 1 0 1]]]
  rw[<- e2]at this
  exact this
theorem Ua {f:FuncId} (hf:Qa P f L02.c L02.r L02.n):Qah P f:=by
 intro m
 refine PureC.is (Q8 hm hf (qh rfl) ?_) rfl
 unfold L02.c
 obtain⟨p,hp⟩:∃p:Bool,decide ((m.verts.length:Int)<=60)=p:=⟨_,rfl⟩
 obtain⟨q,hq⟩:∃q:Bool,decide ((m.tris.length:Int)<=60)=q:=⟨_,rfl⟩
 have hB:Q8k m=(p && q):=by
  unfold Q8k
  rw[<- hp,<- hq]
  congr 1<;>exact decide_eq_decide.2 (by omega)
 rw[hB]
 cases p<;>cases q<;>simp only[decide_eq_true_eq,decide_eq_false_iff_not]at hp hq<;>simp[go_sem,Mesh.enc,Mesh.cs,vsV,tsV,hp,hq,L02.r]
theorem Kz {f fb fs fq fe fc:FuncId} (hf:Qa P f (L01.c fb fs fq fe fc) L01.r L01.n) (hb:BoxC P fb) (hs:Q3d P fs) (hq:Q7l P fq) (he:Q3e P fe) (hc:ChkC P fc):Q3j P f:=by
 have c2:=hb ⟨40,80,0⟩ ⟨120,120,20⟩ (by decide) (by decide)
 rw[show Qa8 ⟨40,80,0⟩ ⟨120,120,20⟩=X5 exBox 0 by rfl]at c2
 have c3:=hs exBox 10 40
 rw[Q9z]at c3
 have c4:=hq 1 2 3 (by omega) (by omega) (by omega)
 have hv:RgV (W6 1 2 3 3)/\RgB (W6 1 2 3 3):=⟨Qdr (by omega),rectR_b (by omega) (by omega)⟩
 have c5:=he _ _ hv.1 hv.1 hv.2 hv.2
 rw[decide_eq_true rfl]at c5
 have c6:=hc exBox
 rw[exBox_ok.2]at c6
 have hmc:exBox.cs.length=2:=rfl
 have hmt:List.take 2 exBox.cs=exBox.cs:=rfl
 have hmd:∀x∈exBox.cs,x.isD=true:=by
  intro x hx
  simp[Mesh.cs]at hx
  rcases hx with rfl | rfl<;>rfl
 have hmcl:∀n,∀x∈exBox.cs,x.cl n=true:=λn x hx=>Kg n (hmd x hx)
 unfold X5 Mesh.enc at c2
 simp only[Mesh.enc]at c3 c6
 simp only[rgV]at c3 c4 c5
 simp only[V3.enc,V3.cs]at c2
 generalize exBox=m at *
 generalize W6 1 2 3 3=R at *
 refine PureC.is (Q8 hm hf (qh rfl) ?_) rfl
 unfold L01.c
 simp[go_sem]
 refine Q5 c2 ?_
 simp[go_sem,V.cells,V.okA,hmc,hmt]
 refine Q5 c3 ?_
 simp[go_sem,V.cells,V.okA,hmc,hmt]
 refine Qx c4 ?_
 simp[go_sem,V.cells,V.okA,hmc,hmt]
 refine Qx c5 ?_
 simp[go_sem,V.cells,V.okA,hmc,hmt]
 refine Qx c6 ?_
 simp[go_sem,V.cells,V.okA,hmc,hmt,L01.r]
end
theorem Xm {h l:List O} {id:Nat} (hid:id<h.length):(h++l)[id]?=h[id]?:=qd hid
theorem Iq {h l:List O} {id:Nat} (hid:id<h.length) (o:O):(h++l).set id o=h.set id o++l:=List.set_append_left _ _ hid
def shE (a b:Int) (id:Nat) (w:Rw):List V:=[.i .i64 (w.y+b),.own id (w.rs.length+1) 0 w.rs.length]
def shO (a:Int) (w:Rw):O:=.arr (w.rs.length+1) 2 (w.rs.map λr=>(sRn a r).cs)
def shL (a b:Int):Nat->List Rw->List (List V)
 | _,[]=>[]
 | n,w::g=>shE a b (n+1) w::shL a b (n+2) g
def shH (a:Int):List Rw->List O
 | []=>[]
 | w::g=>.dead::shO a w::shH a g
theorem Q8o (a b:Int) (w:Rw):∀(n:Nat) (g:List Rw),shL a b n (g++[w])=shL a b n g++[shE a b (n+2*g.length+1) w]
 | n,[]=>by simp[shL]
 | n,u::g=>by
   simp only[List.cons_append,shL,Q8o a b w (n+2) g,List.length_cons]
   rw[show n+2+2*g.length+1=n+2*(g.length+1)+1 by omega]
theorem Q8p (a:Int) (w:Rw):∀(g:List Rw),shH a (g++[w])=shH a g++[.dead,shO a w]
 | []=>rfl
 | u::g=>by simp only[List.cons_append,shH,Q8p a w g]
theorem Qdl (a:Int):∀g:List Rw,(shH a g).length=2*g.length
 | []=>rfl
 | u::g=>by simp only[shH,List.length_cons,Qdl a g];omega
theorem Q1a (a b:Int):∀(n:Nat) (g:List Rw),(shL a b n g).length=g.length
 | _,[]=>rfl
 | n,u::g=>by simp only[shL,List.length_cons,Q1a a b (n+2) g]
theorem Qdk (a b:Int) (h:List O):∀(n:Nat) (g:List Rw),(∀i o,(shH a g)[i]?=some o->h[n+i]?=some o) ->
  (shL a b n g).mapM (λel=>el.mapM (K6 h))=some ((g.map (sRw a b)).map Rw.cs)
 | _,[],_=>rfl
 | n,w::g,hh=>by
   have h1:=hh 1 (shO a w) rfl
   have h2:=Qdk a b h (n+2) g λi o hi=>by
    have:=hh (i+2) o hi
    rwa [show n+(i+2)=n+2+i by omega]at this
   simp only[shL,List.mapM_cons,h2,List.map_cons]
   have h3:(shE a b (n+1) w).mapM (K6 h)=some (Rw.cs (sRw a b w)):=by
    have ht:List.take w.rs.length (w.rs.map λr=>(sRn a r).cs)=w.rs.map λr=>(sRn a r).cs:=qe (by simp)
    have ha:((w.rs.map λr=>(sRn a r).cs).all λx=>x.all V.isD)=true:=by
     rw[qj]
     intro el hel
     obtain⟨q,hq,rfl⟩:=qo.1 hel
     rfl
    have h4:K6 h (.own (n+1) (w.rs.length+1) 0 w.rs.length)=some (Z5 (sRw a b w).rs):=by
     unfold shO at h1
     simp only[K6,Xj,h1]
     rw[if_pos ⟨trivial,by simp,by rw[List.drop_zero,ht];exact ha⟩,List.drop_zero,ht]
     simp[sRw,Z5]
    simp only[shE,List.mapM_cons,List.mapM_nil,h4]
    rfl
   rw[h3];rfl
theorem Qj2 (a b:Int) (N:Nat):∀(n:Nat) (g:List Rw),n+2*g.length<=N->∀el∈shL a b n g,∀x∈el,V.cl N x=true
 | _,[],_,el,hel,_,_=>by simp[shL]at hel
 | n,w::g,hN,el,hel,x,hx=>by
   simp only[List.length_cons]at hN
   simp only[shL,List.mem_cons]at hel
   rcases hel with rfl | hel
   ·simp[shE]at hx
    rcases hx with rfl | rfl
    ·rfl
    ·simp[V.cl,V.cl1,V.cl0];omega
   ·exact Qj2 a b N (n+2) g (by omega) el hel x hx
theorem Qj3 (a:Int) (N:Nat):∀(g:List Rw),∀o∈shH a g,o.cl N
 | [],o,ho=>by simp[shH]at ho
 | w::g,o,ho=>by
   simp only[shH,List.mem_cons]at ho
   rcases ho with rfl | rfl | ho
   ·simp[O.cl]
   ·intro el hel x hx
    obtain⟨r,_,rfl⟩:=qo.1 hel
    simp[Rn.cs]at hx
    rcases hx with rfl | rfl<;>rfl
   ·exact Qj3 a N g o ho
section
variable {P:Program} (hm:P.follows .mixedOrders=true)
include hm
theorem Q28 {f fv fb:FuncId} (hf:Qa P f (L0w.c fv fb) L0w.r L0w.n) (hv:Q1i P fv) (hb:Qde P fb):Iw P f:=by
 intro g a b hg hbd hsb ha hb'
 have hll:=hg.len hbd
 have c1:=hv g hg hbd
 have c2:=hb g hg hbd
 have hin:=Qiz hg hsb ha
 have hbx:=bx_bd hg hbd
 by_cases hg0:g=[]
 ·subst hg0
  simp only[rgV,List.map_nil,Qcx,List.head?_nil]at c1 c2
  refine CallIs.res (r:=.t [.a [.nil],.i .i64 0]) ?_ (.inr ⟨_,_,rfl,rfl,.inr ⟨_,_,rfl,rfl,Le0.nil 2,trivial⟩,Le1.refl _,trivial⟩)
  refine PureC.is (Q8 hm hf (qh rfl) ?_) rfl
  unfold L0w.c
  simp[go_sem,rgV]
  refine Q5 c1 ?_
  simp[go_sem]
  refine Q5 c2 ?_
  simp[go_sem,Kt,L0w.r]
 obtain⟨n,hn⟩:∃n,g.length=n+1:=⟨g.length-1,by have:=jf.2 hg0;omega⟩
 have hq0:g[0]?=some g[0]:=q9 (by omega)
 have hqn:g[n]?=some g[n]:=q9 (by omega)
 have hG:Qcx g=.t [Kt (bxA g) (g[0]).y,Kt (bxZ g) (g[n]).y,.b true]:=by
  unfold Qcx
  rw[List.head?_eq_getElem?,List.getLast?_eq_getElem?,show g.length-1=n by omega,hq0,hqn]
 rw[hG]at c2
 have y0:=hin.2 _ (qb hq0)
 have yn:=hin.2 _ (qb hqn)
 have z0:=hbd.yb hg (qb hq0)
 have zn:=hbd.yb hg (qb hqn)
 have x1:=hin.1
 generalize g[0]=u at *
 generalize g[n]=v at *
 generalize bxA g=X at *
 generalize bxZ g=Z at *
 refine PureC.is (Q8y hm hf (qh rfl) ?_) rfl
 unfold L0w.c
 simp[go_sem,rgV]
 unfold rgV at c1 c2
 refine Q5 c1 ?_
 simp[go_sem]
 refine Q5 c2 ?_
 simp (disch:=omega) [go_sem,Kt,Q3,show ¬ a < -4096-X by omega,show ¬ 4095-Z<a by omega,show ¬ b < -4096-u.y by omega,show ¬ 4095-v.y<b by omega]
 refine Zg [.c 4 0 0 2] (α:=Nat) (λi=>i<=g.length)
  (λi=>⟨[(1,.i .i64 a),(2,.i .i64 b),(3,.p 0 1 0 0),(6,.p 1 1 0 0),(7,.i .i64 0),(11,.p 4 1 0 0),(12,.i .i64 i)],.arr 1 1 [[rwL g]]::.arr 1 1 [[.nil]]::.arr 1 2 [[.i .i64 X,.i .i64 u.y]]::.arr 1 2 [[.i .i64 Z,.i .i64 v.y]]::.arr 1 1 [[.own 5 (i+1) 0 i]]::.arr (i+1) 2 (shL a b 6 (g.take i))::shH a (g.take i)⟩)
  (λi=>g.length-i) 0 (Nat.zero_le _) ?_ ?_
 ·simp[go_sem,rwL,shL,shH]
 intro i hi
 by_cases hil:i=g.length
 ·subst hil
  rw[qi]
  have ht:List.take g.length (shL a b 6 g)=shL a b 6 g:=qe (by rw[Q1a];omega)
  simp[go_sem,rwL,ht,L0w.r]
  rw[Qdk a b _ 6 g λi o hi=>by
   rw[show 6+i=i+1+1+1+1+1+1 by omega]
   simpa using hi]
  simp[Q1a,rgV,J6,Yk]
 have hlt:i<g.length:=by omega
 have hq:g[i]?=some g[i]:=q9 hlt
 have hmem:=qb hq
 have hts:=Qf hq
 have hyb:=hbd.yb hg hmem
 have hri:=hbd.rnb hg hmem
 have hrl:=(hg.rs _ hmem).len hri
 have hrv:=(hg.rs _ hmem).1
 generalize g[i]=w at *
 obtain⟨_,hq'⟩:=q8.1 hq
 have hlen:(shL a b 6 (g.take i)).length=i:=by rw[Q1a,qv];omega
 have hHl:(shH a (g.take i)).length=2*i:=by rw[Qdl,qv];omega
 have hL1:shL a b 6 (g.take (i+1))=shL a b 6 (g.take i)++[shE a b (2*i+7) w]:=by
  rw[hts,Q8o,qv,show 6+2*min i g.length+1=2*i+7 by omega]
 have hH1:shH a (g.take (i+1))=shH a (g.take i)++[.dead,shO a w]:=by rw[hts,Q8p]
 have hcL:∀N,2*i+6<=N->∀el∈shL a b 6 (g.take i),∀x∈el,V.cl N x=true:=λN hN=>Qj2 a b N 6 _ (by rw[qv];omega)
 have hcH:∀N,∀o∈shH a (g.take i),o.cl N:=λN=>Qj3 a N _
 generalize shL a b 6 (g.take i)=L at *
 generalize shH a (g.take i)=H at *
 have hg1:∀(x:O) (l:List O),(H++x::l)[2*i]?=some x:=λx l=>by
  rw[qf (by omega),hHl];simp
 have hg2:∀(x y:O) (l:List O),(H++x::y::l)[2*i+1]?=some y:=λx y l=>by
  rw[qf (by omega),hHl];simp
 have hs1:∀(x z:O) (l:List O),(H++x::l).set (2*i) z=H++z::l:=λx z l=>by
  rw[jl _ _ (by omega),hHl];simp
 have hs2:∀(x y z:O) (l:List O),(H++x::y::l).set (2*i+1) z=H++x::z::l:=λx y z l=>by
  rw[jl _ _ (by omega),hHl];simp
 have hg3:∀(x y z:O),(H++[x,y,z])[2*i+2]?=some z:=λx y z=>by
  rw[qf (by omega),hHl];simp
 have hd3:∀(x y z:O),List.drop (2*i+2) (H++[x,y,z])=[z]:=λx y z=>by
  rw[show 2*i+2=H.length+2 by omega,List.drop_append];simp
 have hd2:∀(x y:O),List.drop (2*i+2) (H++[x,y])=[]:=λx y=>by
  rw[show 2*i+2=H.length+2 by omega,List.drop_append];simp
 have hLt:List.take i L=L:=qe (by omega)
 simp (disch:=omega) [go_sem,rwL,hlt,hq,hq',Rw.cs,Q3,hHl,hlen,hg1,hs1]
 refine Zg [.c (2*i+1+1+1+1+1+1) 0 1 2] (α:=Nat) (λk=>k<=w.rs.length)
  (λk=>⟨[(1,.i .i64 a),(2,.i .i64 b),(3,.p 0 1 0 0),(6,.p 1 1 0 0),(7,.i .i64 0),(11,.p 4 1 0 0),(12,.i .i64 i),(13,.p (2*i+1+1+1+1+1+1) 1 0 0),(14,.i .i64 k)],.arr 1 1 [[.l 2 (g.map Rw.cs)]]::.arr 1 1 [[.nil]]::.arr 1 2 [[.i .i64 X,.i .i64 u.y]]::.arr 1 2 [[.i .i64 Z,.i .i64 v.y]]::.arr 1 1 [[.own 5 (i+1) 0 i]]::.arr (i+1) 2 L ::
   (H++[.arr 1 2 [[.i .i64 (w.y+b),.own (2*i+1+1+1+1+1+1+1) (k+1) 0 k]],.arr (k+1) 2 ((w.rs.take k).map λr=>(sRn a r).cs)])⟩)
  (λk=>w.rs.length-k) 0 (Nat.zero_le _) ?_ ?_
 ·simp[go_sem,hg1,hs1,hg2,hs2,hHl]
  exact⟨hcL _ (by omega),Ql (hcH _) (by simp[WeakH,O.cl,V.cl,V.cl1,V.cl0])⟩
 intro k hk
 by_cases hkl:k=w.rs.length
 ·subst hkl
  simp (disch:=omega) [go_sem,rwL,hlt,hq,hq',Rw.cs,Z5,Q3,hHl,hlen,hg1,hs1,hg2,hs2,hg3,hd3,hd2,hLt]
  refine⟨⟨by omega,by omega⟩,i+1,by omega,by omega,?_⟩
  rw[hH1,hL1]
  refine⟨by simp;omega,by omega,rfl,⟨⟨rfl,rfl⟩,?_⟩,?_⟩
  ·intro el hel x hx
   rcases qg.1 hel with h | h
   ·exact hcL _ (by simp;omega) el h x hx
   ·simp[shE]at h
    subst h
    simp at hx
    rcases hx with rfl | rfl
    ·rfl
    ·simp[V.cl,V.cl1,V.cl0];omega
  ·refine Ql (hcH _) ?_
   simp[WeakH,shO]
   intro el hel x hx
   obtain⟨r,_,rfl⟩:=qo.1 hel
   simp[Rn.cs]at hx
   rcases hx with rfl | rfl<;>rfl
 have hklt:k<w.rs.length:=by omega
 have hr:w.rs[k]?=some w.rs[k]:=q9 hklt
 have hrb:=hri _ (qb hr)
 have hrs:=Qf hr
 have hrab:=hrv _ (qb hr)
 generalize w.rs[k]=r at *
 obtain⟨_,hr'⟩:=q8.1 hr
 have htk:(w.rs.take k).length=k:=by rw[qv];omega
 simp (disch:=omega) [go_sem,rwL,hlt,hq,hq',Rw.cs,Z5,Rn.cs,hklt,hr,hr',htk,Q3,hHl,hlen,hg1,hs1,hg2,hs2,hg3,hd3,hd2,hLt]
 have hT:List.take (k+1) (w.rs.map λr=>[V.i IntKind.i64 (sRn a r).a,V.i IntKind.i64 (sRn a r).b])=List.take k (List.take k (w.rs.map λr=>[V.i IntKind.i64 (sRn a r).a,V.i IntKind.i64 (sRn a r).b]))++[[V.i IntKind.i64 (IntKind.i64.wrap (r.a+a)),V.i IntKind.i64 (IntKind.i64.wrap (r.b+a))]]:=by
  rw[List.take_take,Nat.min_self,<- List.map_take,hrs,qw,List.map_take]
  simp (disch:=omega) [sRn,Q3]
 refine⟨⟨by omega,by omega⟩,k+1,by omega,by omega,by omega,hcL _ (by omega),Ql (hcH _) ?_⟩
 rw[hT]
 simp[WeakH,O.cl,V.cl,V.cl1,V.cl0]
 refine⟨⟨(Q3 (by omega) (by omega)).symm,(Q3 (by omega) (by omega)).symm⟩,?_⟩
 intro el hel x hx
 rcases hel with hel | rfl
 ·obtain⟨r',_,rfl⟩:=qo.1 (jk (jk hel))
  simp at hx
  rcases hx with rfl | rfl<;>rfl
 ·simp at hx
  rcases hx with rfl | rfl<;>rfl
end
end Go.Abs
