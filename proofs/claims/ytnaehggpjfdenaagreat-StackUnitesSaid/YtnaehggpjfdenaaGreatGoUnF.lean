/- Part of the library on which the proof stands: an abstract machine, its values and its soundness against the model; or what functions of the program do to such values. -/
import Derived.Test.YtnaehggpjfdenaaGreatGoSkB
import Derived.Test.YtnaehggpjfdenaaGreatGoOy
import Derived.Test.YtnaehggpjfdenaaGreatGoSkD
import Derived.Test.YtnaehggpjfdenaaGreatGoSet
set_option linter.unusedVariables false
set_option linter.unusedSimpArgs false
set_option maxHeartbeats 16000000
set_option maxRecDepth 20000
namespace Go.Abs
def InvC (P:Program) (f:FuncId):Prop:=∀m:Mesh,m.check=0->CallIs P f [m.enc] (.b m.inv)
def ChkC (P:Program) (f:FuncId):Prop:=∀m:Mesh,CallIs P f [m.enc] (.i .i64 (U0 m))
def NoneTo {α:Type} (p:α->Bool) (l:List α) (k:Nat):Prop:=(l.take k).any p=false
theorem NoneTo.zero {α:Type} (p:α->Bool) (l:List α):NoneTo p l 0:=by simp[NoneTo]
theorem NoneTo.all {α:Type} {p:α->Bool} {l:List α} (h:NoneTo p l l.length):l.any p=false:=by unfold NoneTo at h;rwa [qi]at h
theorem Qbb {α:Type} (p:α->Bool) {l:List α} {k:Nat} {a:α} (h:l[k]?=some a) (hn:NoneTo p l k) (ha:p a=false):NoneTo p l (k+1):=by
 unfold NoneTo at *
 rw[Qc h,List.any_append,hn];simp[ha]
theorem Qi1 {α:Type} (p:α->Bool) {l:List α} {k:Nat} {a:α} (h:l[k]?=some a) (ha:p a=true):l.any p=true :=
 List.any_eq_true.2 ⟨a,qb h,ha⟩
theorem degI_at {m:Mesh} (hz:m.check=0) {k:Nat} {t:T3} (h:m.tris[k]?=some t):m.degI (k:Int)=m.deg t:=by
 have hl:=(q8.1 h).1
 unfold Mesh.degI
 rw[if_pos ⟨by omega,by omega,hz⟩,Int.toNat_natCast,h]
theorem chkR_1 {m:Mesh} (h:m.check≠0):U0 m=m.check:=by unfold U0;rw[if_pos h]
theorem chkR_2 {m:Mesh} (h:m.check=0) (h2:m.closed=false):U0 m=12:=by unfold U0;rw[if_neg (by simpa using h),if_pos h2]
theorem chkR_3 {m:Mesh} (h:m.check=0) (h2:m.closed=true) (h3:Q11 m.tris=false):U0 m=13:=by unfold U0;rw[if_neg (by simpa using h),if_neg (by rw[h2];simp),if_pos h3]
theorem chkR_4 {m:Mesh} (h:m.check=0) (h2:m.closed=true) (h3:Q11 m.tris=true):U0 m=if m.tris.any m.deg=true then 1 else if m.inv=true then 1 else 0:=by
 unfold U0;rw[if_neg (by simpa using h),if_neg (by rw[h2];simp),if_neg (by rw[h3];simp)]
theorem Qql {m:Mesh} (h:m.check=0):m.coh=Q11 m.tris:=by unfold Mesh.coh;rw[h];simp
section
variable {P:Program} (hm:P.follows .mixedOrders=true)
include hm
theorem Eo {f fs fv:FuncId} (hf:Q9 P f (L1e.c fs fv) L1e.r L1e.n) (hs:Qah P fs) (hv:VolC P fv):InvC P f:=by
 intro m hz
 obtain⟨z1,z2,z3,z4⟩:=Mesh.check_zero.1 hz
 have hok:=Qj7 hz
 have hs1:=hs m
 unfold Mesh.inv
 generalize m.shells=shs at *
 generalize hp:(λsh=>decide (Xd m.verts (Zm m.tris sh)<0))=p
 generalize hB:shs.any p=B
 refine PureC.is (Q7 hm hf (qh rfl) ?_) rfl
 unfold L1e.c
 simp[go_sem,Mesh.enc,Mesh.cs,vsV,tsV]
 refine Q4 hs1 ?_
 simp[go_sem,lsV]
 have hsv:∀(n:Nat) (a:V3),List.map (V.sh1 n) a.cs=a.cs:=λn a=>by simp[vcs,V.sh1,V.sh0]
 have hst:∀(n:Nat) (a:T3),List.map (V.sh1 n) a.cs=a.cs:=λn a=>by simp[tcs,V.sh1,V.sh0]
 refine Qi (α:=Nat) (λk=>k<=shs.length/\NoneTo p shs k)
  (λk=>⟨[(1,.p 0 1 0 0),(9,lsV shs),(10,.i .i64 shs.length),(11,.i .i64 k)],
   [.arr 1 2 [m.cs]]⟩)
  (λk=>shs.length-k) 0 ⟨Nat.zero_le _,NoneTo.zero _ _⟩ ?_ ?_
 ·simp[go_sem,lsV,Mesh.cs,vsV,tsV,Qb5,El,hsv,hst]
 ·rintro k ⟨hk,hno⟩
  by_cases hkl:k=shs.length
  ·subst hkl
   obtain rfl:=hB.symm.trans hno.all
   simp[go_sem,lsV,L1e.r]
  ·have hlt:k<shs.length:=by omega
   have hnum:=hok.num
   have hq:shs[k]?=some shs[k]:=q9 hlt
   have hmw:shs[k]∈shs:=List.getElem_mem _
   generalize shs[k]=sh at hq hmw
   obtain⟨_,hq'⟩:=q8.1 hq
   have hshl:=hok.len sh hmw
   have hshm:=hok.mem sh hmw
   simp[go_sem,lsV,hlt,hq,hq',Mesh.cs,vsV,tsV,isV]
   refine Qs [.c 1 0 1 3] (α:=Nat) (λj=>j<=sh.length)
    (λj=>⟨[(1,.p 0 1 0 0),(4,isV sh),(5,.p 1 1 0 0),(9,lsV shs),(10,.i .i64 shs.length),(11,.i .i64 k),(18,isV sh),(19,.i .i64 sh.length),(20,.i .i64 j)],
     [.arr 1 2 [m.cs],.arr 1 2 [[vsV m.verts,.own 2 (j+1) 0 j]],.arr (j+1) 3 ((Zm m.tris (sh.take j)).map T3.cs)]⟩)
    (λj=>sh.length-j) 0 (Nat.zero_le _) ?_ ?_
   ·simp[go_sem,lsV,isV,Zm,Mesh.cs,vsV,tsV,Qb5,El]
   ·intro j hj
    by_cases hjl:j=sh.length
    ·subst hjl
     rw[qi]
     have hpl:=Q48 m.tris sh
     have hvol:=hv ⟨m.verts,Zm m.tris sh⟩
     have hve:(Mesh.mk m.verts (Zm m.tris sh)).vol6=Xd m.verts (Zm m.tris sh):=by unfold Mesh.vol6;rw[if_pos (Qeu hz hshl hshm)]
     rw[hve]at hvol
     have hps:p sh=decide (Xd m.verts (Zm m.tris sh)<0):=by rw[<- hp]
     generalize Zm m.tris sh=PT at *
     have htkp:List.take sh.length (PT.map T3.cs)=PT.map T3.cs:=qe (by simp;omega)
     simp[go_sem,lsV,isV]
     refine Zn (vs:=[(Mesh.mk m.verts PT).enc]) ?_ hvol ?_
     ·simp[go_sem,X4,frz,X5,Mesh.enc,Mesh.cs,vsV,tsV,Qgz,htkp,hpl]
     ·by_cases hneg:Xd m.verts PT<0
      ·have ha:shs.any p=true:=Qi1 p hq (by rw[hps];simpa using hneg)
       obtain rfl:=hB.symm.trans ha
       simp (disch:=omega) [go_sem,vsV,tsV,hneg,L1e.r]
      ·have ha:=Qbb p hq hno (by rw[hps];simpa using hneg)
       simp (disch:=omega) [go_sem,vsV,tsV,hneg,Q0]
       refine⟨k+1,⟨by omega,ha⟩,by omega,?_⟩
       simp (disch:=omega) [go_sem,lsV,Mesh.cs,vsV,tsV,Qb5,El,Q0]
    ·have hjlt:j<sh.length:=by omega
     have hq2:sh[j]?=some sh[j]:=q9 hjlt
     have hqm:sh[j]∈sh:=List.getElem_mem _
     have hpj:=λv (h:sh[j]?=some v)=>Qc4 (ts:=m.tris) h
     generalize sh[j]=v at hq2 hqm
     have hpj:=hpj v hq2
     obtain⟨_,hq2'⟩:=q8.1 hq2
     obtain⟨v0,v1⟩:=hshm v hqm
     have v2:v.toNat<m.tris.length:=by omega
     have ht:=Zt v2
     have hpl:=Q48 m.tris (sh.take j)
     rw[qv,Nat.min_eq_left (by omega)]at hpl
     generalize tAt m.tris v.toNat=t at ht hpj
     obtain⟨_,ht'⟩:=q8.1 ht
     generalize hPT:Zm m.tris (sh.take j)=PT at *
     have htkp:List.take j (PT.map T3.cs)=PT.map T3.cs:=qe (by simp;omega)
     simp (disch:=omega) [go_sem,lsV,isV,Mesh.cs,vsV,tsV,hjlt,hq2,hq2',v0,v1,v2,ht,ht',tcs,htkp,hpl,Q0]
     refine⟨⟨by omega,by omega⟩,j+1,by omega,by omega,?_⟩
     rw[hpj]
     exact⟨by omega,rfl,by rw[qw];rfl⟩
theorem Q20 {f fc fl fh fd fi:FuncId} (hf:Q9 P f (L1d.c fc fl fh fd fi) L1d.r L1d.n) (hc:K1 P fc) (hl:Qat P fl) (hh:Q1d P fh) (hd:DegC P fd) (hi:InvC P fi):ChkC P f:=by
 intro m
 have hl1:=hl m
 have hh1:=hh m
 by_cases hz:m.check=0
 case neg =>
  rw[chkR_1 hz]
  refine PureC.is (Q7 hm hf (qh rfl) ?_) rfl
  unfold L1d.c
  simp[go_sem,Mesh.enc,Mesh.cs]
  refine Q4 (hc m) ?_
  simp[go_sem,hz,L1d.r]
 obtain⟨z1,z2,z3,z4⟩:=Mesh.check_zero.1 hz
 rw[Qql hz]at hh1
 by_cases hcl:m.closed=false
 case pos =>
  rw[chkR_2 hz hcl]
  rw[hcl]at hl1
  refine PureC.is (Q7 hm hf (qh rfl) ?_) rfl
  unfold L1d.c
  simp[go_sem,Mesh.enc,Mesh.cs]
  refine Q4 (hc m) ?_
  simp[go_sem,hz]
  refine Q4 hl1 ?_
  simp[go_sem,L1d.r]
 have hcl':m.closed=true:=by simpa using hcl
 rw[hcl']at hl1
 by_cases hco:Q11 m.tris=false
 case pos =>
  rw[chkR_3 hz hcl' hco]
  rw[hco]at hh1
  refine PureC.is (Q7 hm hf (qh rfl) ?_) rfl
  unfold L1d.c
  simp[go_sem,Mesh.enc,Mesh.cs]
  refine Q4 (hc m) ?_
  simp[go_sem,hz]
  refine Q4 hl1 ?_
  simp[go_sem]
  refine Q4 hh1 ?_
  simp[go_sem,L1d.r]
 have hco':Q11 m.tris=true:=by simpa using hco
 rw[hco']at hh1
 rw[chkR_4 hz hcl' hco']
 generalize hA:m.tris.any m.deg=A
 refine PureC.is (Q7 hm hf (qh rfl) ?_) rfl
 unfold L1d.c
 simp[go_sem,Mesh.enc,Mesh.cs,vsV,tsV]
 refine Q4 (hc m) ?_
 simp[go_sem,hz]
 refine Q4 hl1 ?_
 simp[go_sem]
 refine Q4 hh1 ?_
 have hsv:∀(n:Nat) (a:V3),List.map (V.sh1 n) a.cs=a.cs:=λn a=>by simp[vcs,V.sh1,V.sh0]
 have hst:∀(n:Nat) (a:T3),List.map (V.sh1 n) a.cs=a.cs:=λn a=>by simp[tcs,V.sh1,V.sh0]
 simp[go_sem]
 refine Qi (α:=Nat) (λk=>k<=m.tris.length/\NoneTo m.deg m.tris k)
  (λk=>⟨[(1,.p 0 1 0 0),(18,.i .i64 m.tris.length),(19,.i .i64 k)],[.arr 1 2 [m.cs]]⟩)
  (λk=>m.tris.length-k) 0 ⟨Nat.zero_le _,NoneTo.zero _ _⟩ ?_ ?_
 ·simp[go_sem,Mesh.cs,vsV,tsV,Qb5,El,hsv,hst]
 ·rintro k ⟨hk,hno⟩
  by_cases hkl:k=m.tris.length
  ·subst hkl
   obtain rfl:=hA.symm.trans hno.all
   have hi1:=hi m hz
   simp[go_sem,Mesh.cs,vsV,tsV]
   refine Q4 hi1 ?_
   cases hin:m.inv<;>simp[go_sem,L1d.r]
  ·have hlt:k<m.tris.length:=by omega
   have hq:=Zt hlt
   have hdk:=hd m (k:Int)
   rw[degI_at hz hq]at hdk
   simp[go_sem,hlt,Mesh.cs,vsV,tsV]
   refine Q4 hdk ?_
   cases hdg:m.deg (tAt m.tris k) with
   | true =>
     have ha:m.tris.any m.deg=true:=Qi1 _ hq hdg
     obtain rfl:=hA.symm.trans ha
     simp[go_sem,L1d.r]
   | false =>
     have ha:=Qbb _ hq hno hdg
     simp (disch:=omega) [go_sem,Q0]
     refine⟨k+1,⟨by omega,ha⟩,by omega,?_⟩
     simp[go_sem,Mesh.cs,vsV,tsV,Qb5,El]
end
structure Sett where
 pitch:Int
 height:Int
 walls:Int
 top:Int
 bottom:Int
 pattern:Int
 spacing:Int
 support:Bool
 reach:Int
 gap:Int
 brim:Int
 skirt:Int
 drop:Int
 feed:Int
 travel:Int
 retract:Int
 minTime:Int
 minFeed:Int
 nozzle:Int
 bed:Int
def Sett.cs (s:Sett):List V:=[.i .i64 s.pitch,.i .i64 s.height,.i .i64 s.walls,.i .i64 s.top,.i .i64 s.bottom,.i .i64 s.pattern,.i .i64 s.spacing,.b s.support,.i .i64 s.reach,.i .i64 s.gap,
 .i .i64 s.brim,.i .i64 s.skirt,.i .i64 s.drop,.i .i64 s.feed,.i .i64 s.travel,.i .i64 s.retract,.i .i64 s.minTime,.i .i64 s.minFeed,.i .i64 s.nozzle,.i .i64 s.bed]
def Sett.enc (s:Sett):V:=.a s.cs
def Qgm (P:Program) (f:FuncId):Prop:=∀(m:Mesh) (s:Sett),CallIs P f [m.enc,s.enc] (.t [Yk (Xb m s.pitch s.height).1,.i .i64 (Xb m s.pitch s.height).2])
theorem Qly {l:List V3} (h:Jl l=true) {v:V3} (hv:v∈l):v.valid=true:=by
 unfold Jl at h
 exact qj.1 h v hv
theorem bHi_bd {l:List V3} (hl:l≠[]) (hv:∀v∈l,v.valid=true):(bHi l).z<=65536/\-65536<=(bHi l).z:=by
 have hb:∀v∈l,v.z<=65536/\-65536<=v.z:=λv h=>by
  have:=V3.val_iff.1 (hv v h)
  omega
 cases l with
 | nil=>exact absurd rfl hl
 | cons v l =>
   unfold bHi
   rw[(Qqv (v::l) v).2.2]
   rcases (Qnx V3.z (v::l) v.z).2.2 with h | ⟨w,hw,h⟩
   ·rw[h];exact hb v (by simp)
   ·rw[h];exact hb w hw
def rgE (g:List Rw):List V:=[rwL g]
theorem Q40 (l:List (List Rw)) (n:Nat):∀g∈l,∀x∈rgE g,x.cl n=true:=λg _ x hx=>by
 simp[rgE]at hx
 subst hx
 rfl
theorem Q8s (l:List (List Rw)):∀g∈l,∀x∈rgE g,x.isD=true:=λg _ x hx=>by
 simp[rgE]at hx
 subst hx
 rfl
theorem Zk (l:List (List Rw)):Yk l=.l 1 (l.map rgE):=rfl
section
variable {P:Program} (hm:P.follows .mixedOrders=true)
include hm
theorem Q5o {f fc fb fh fs:FuncId} (hf:Q9 P f (L27.c fc fb fh fs) L27.r L27.n) (hc:ChkC P fc) (hb:Qry P fb) (hh:HgtC P fh) (hs:Qgd P fs):Qgm P f:=by
 intro m s
 have hcc:=hc m
 have hnil:∀e:Int,Le (.t [.nil,.i .i64 e]) (.t [Yk [],.i .i64 e]):=λe=>.inr ⟨_,_,rfl,rfl,.inl (Le0.nil 1),Le1.refl _,trivial⟩
 unfold Xb
 by_cases h0:U0 m=0
 case neg =>
  rw[if_pos h0]
  refine CallIs.res (r:=.t [.nil,.i .i64 (U0 m)]) ?_ (hnil _)
  refine PureC.is (Q7 hm hf (qh rfl) ?_) rfl
  have hb:(U0 m != 0)=true:=by simpa using h0
  unfold L27.c
  simp[go_sem,Mesh.enc,Mesh.cs,Sett.enc,Sett.cs]
  refine Q4 hcc ?_
  simp[go_sem,h0,hb,L27.r]
 rw[if_neg (by simp[h0])]
 rw[h0]at hcc
 have hmc:=(snd_iff.1 h0).z
 have hbc:=hb m hmc
 by_cases hv:m.verts=[]
 ·rw[if_pos hv]
  rw[decide_eq_false (by simp[hv])]at hbc
  refine CallIs.res (r:=.t [.nil,.i .i64 0]) ?_ (hnil _)
  refine PureC.is (Q7 hm hf (qh rfl) ?_) rfl
  unfold L27.c
  simp[go_sem,Mesh.enc,Mesh.cs,Sett.enc,Sett.cs]
  refine Q4 hcc ?_
  simp[go_sem]
  refine Q4 hbc ?_
  simp[go_sem,V3.enc,V3.cs,L27.r]
 rw[if_neg hv]
 rw[decide_eq_true hv]at hbc
 by_cases hz:(bLo m.verts).z<0
 ·rw[if_pos hz]
  refine CallIs.res (r:=.t [.nil,.i .i64 8]) ?_ (hnil _)
  refine PureC.is (Q7 hm hf (qh rfl) ?_) rfl
  unfold L27.c
  simp[go_sem,Mesh.enc,Mesh.cs,Sett.enc,Sett.cs]
  refine Q4 hcc ?_
  simp[go_sem]
  refine Q4 hbc ?_
  simp[go_sem,V3.enc,V3.cs,hz,L27.r]
 rw[if_neg hz]
 have hzb:=bHi_bd hv λv hv=>Qly (Mesh.check_zero.1 hmc).2.2.1 hv
 have hhc:=hh (bHi m.verts).z s.height (by omega) (by omega)
 have hhl:=Qcp (bHi m.verts).z s.height
 generalize Q0w (bHi m.verts).z s.height=H at *
 obtain⟨zs,e⟩:=H
 simp only at hhc hhl ⊢
 by_cases he:e=0
 case neg =>
  rw[if_pos he]
  have heb:(e != 0)=true:=by simpa using he
  refine CallIs.res (r:=.t [.nil,.i .i64 e]) ?_ (hnil _)
  refine PureC.is (Q7 hm hf (qh rfl) ?_) rfl
  unfold L27.c
  simp[go_sem,Mesh.enc,Mesh.cs,Sett.enc,Sett.cs]
  refine Q4 hcc ?_
  simp[go_sem]
  refine Q4 hbc ?_
  simp[go_sem,V3.enc,V3.cs,hz]
  refine Q4 hhc ?_
  simp[go_sem,he,heb,L27.r]
 rw[if_neg (by simp[he])]
 subst he
 refine CallIs.res (r:=.t [if (Ku m s.pitch zs).2≠0 then .nil else Yk (Ku m s.pitch zs).1,.i .i64 (Ku m s.pitch zs).2]) ?_ (by
  by_cases h1:(Ku m s.pitch zs).2=0
  ·rw[if_neg (by simp[h1])]
   exact Le.refl _
  ·rw[if_pos h1]
   have h2:(Ku m s.pitch zs).1=[]:=by
    by_cases h3:∀z∈zs,(Zd m z s.pitch).2=0
    ·rw[Iq h3]at h1
     simp at h1
    ·cases zs with
     | nil=>rfl
     | cons z zs =>
       unfold Ku at h1 ⊢
       split
       ·rfl
       ·split
        ·rfl
        ·rename_i q1 q2
         rw[if_neg q1,if_neg q2]at h1
         simp at h1
   rw[h2]
   exact hnil _)
 refine PureC.is (Q7 hm hf (qh rfl) ?_) rfl
 unfold L27.c
 simp[go_sem,Mesh.enc,Mesh.cs,Sett.enc,Sett.cs]
 refine Q4 hcc ?_
 simp[go_sem]
 refine Q4 hbc ?_
 simp[go_sem,V3.enc,V3.cs,hz]
 refine Q4 hhc ?_
 simp[go_sem,isV]
 obtain⟨T,hT⟩:∃T:Nat->List (List Rw),∀i,T i=(zs.take i).map λz=>(Zd m z s.pitch).1:=⟨_,λ_=>rfl⟩
 have hT0:T 0=[]:=by rw[hT];rfl
 have hTl:∀i,i<=zs.length->(T i).length=i:=λi hi=>by rw[hT,List.length_map,qv];omega
 refine Qs [.t 12 1] (α:=Nat) (λi=>i<=zs.length/\∀z∈zs.take i,(Zd m z s.pitch).2=0)
  (λi=>⟨[(2,.p 0 1 0 0),(3,.p 1 1 0 0),(12,.own 4 (i+1) 0 (T i).length),(44,isV zs),(45,.i .i64 zs.length),(46,.i .i64 i)],[.arr 1 2 [m.cs],.arr 1 20 [s.cs],.dead,.dead,.arr (i+1) 1 ((T i).map rgE)]⟩)
  (λi=>zs.length-i) 0 ⟨Nat.zero_le _,by simp⟩ ?_ ?_
 ·simp[go_sem,isV,hT0,Mesh.cs,Sett.cs]
  exact⟨rfl,rfl⟩
 rintro i ⟨hi,hok⟩
 have hTi:=hTl i hi
 by_cases hil:i=zs.length
 ·subst hil
  rw[qi]at hok
  have hall:=Iq hok
  have hTn:T zs.length=zs.map λz=>(Zd m z s.pitch).1:=by rw[hT,qi]
  rw[hall,<- hTn]
  have ht:List.take zs.length ((T zs.length).map rgE)=(T zs.length).map rgE:=qe (by simp[hTi])
  generalize T zs.length=L at *
  simp (disch:=omega) [go_sem,isV,hTi,ht,Zk,L27.r]
  rw[if_pos (Q8s L)];rfl
 have hlt:i<zs.length:=by omega
 have hq:zs[i]?=some zs[i]:=q9 hlt
 have hTs:T (i+1)=T i++[(Zd m zs[i] s.pitch).1]:=by rw[hT,hT,Qc hq,qw];rfl
 have hsc:=hs m zs[i] s.pitch
 have hbad:=Qbo (m:=m) (k:=s.pitch) hq hok
 have hnext:(Zd m zs[i] s.pitch).2=0->∀z∈zs.take (i+1),(Zd m z s.pitch).2=0:=λh z hz=>by
  rw[Qc hq]at hz
  rcases qg.1 hz with hz | hz
  ·exact hok z hz
  ·rw[qn.1 hz];exact h
 generalize Zd m zs[i] s.pitch=R at *
 obtain⟨g,e⟩:=R
 simp only at hTs hsc hbad hnext
 generalize zs[i]=z at *
 obtain⟨_,hq'⟩:=q8.1 hq
 simp only[Mesh.enc,Mesh.cs,rgV]at hsc
 have htk:List.take i ((T i).map rgE)=(T i).map rgE:=qe (by simp[hTi])
 simp (disch:=omega) [go_sem,isV,hlt,hq,hq',Mesh.cs,Sett.cs,Q0]
 refine Q4 hsc ?_
 by_cases he:e=0
 ·subst he
  have hnx:=hnext rfl
  simp (disch:=omega) [go_sem,isV,hTi,htk,V.cells,V.okA,Q0]
  exact⟨⟨by omega,by omega⟩,i+1,⟨by omega,hnx⟩,by omega,⟨⟨rfl,by rw[hTs];simp[hTi]⟩,by omega⟩,⟨rfl,rfl⟩,⟨rfl,by rw[hTs];simp[rgE,rwL]⟩,Q40 _ _⟩
 ·have heb:(e != 0)=true:=by simpa using he
  rw[hbad he]
  simp (disch:=omega) [go_sem,isV,he,heb,V.cells,V.okA,L27.r]
end
theorem Qrc {P:Program} {n0:Nat} {js:List Nat} {lg:List (List Nat × List Nat)} {f:FuncId} {args:List A} {b:Bool} {env:List (Nat × V)} {h:List O} {K:List Nat × List Nat->V->List O->Prop}:Sg P n0 js lg (.call f args) (.t []) b env h K=K ([],[]) (.t []) h:=Rfl rfl
theorem BoundsC.is {P:Program} {f:FuncId} (h:BoundsC P f) {a b:List Rn} (ha:a.length<=8192) (hb:b.length<=8192):CallIs P f [Qb a,Qb b] (isV (Zh (Zs a++Zs b))) :=
 PureC.is ((h a b ha hb).mono λr ⟨L,h1,h2,h3⟩=>by
  rw[h3]
  congr 1
  have h4:(Zh (Zs a++Zs b)).Pairwise λx y=>x<=y:=by
   have:=List.pairwise_mergeSort (le:=λx y:Int=>decide (x<=y)) (by intro a b c;simp;omega) (by intro a b;simp;omega) (Zs a++Zs b)
   exact this.imp λh=>by simpa using h
  exact List.Perm.eq_of_pairwise (le:=λx y:Int=>x<=y) (λx y _ _ h1 h2=>by omega) h2 h4 (h1.trans (List.mergeSort_perm _ _).symm)) rfl
theorem Q6z (l:List Int):(Zh l).Pairwise λx y=>x<=y:=by
 have:=List.pairwise_mergeSort (le:=λx y:Int=>decide (x<=y)) (by intro a b c;simp;omega) (by intro a b;simp;omega) l
 exact this.imp λh=>by simpa using h
theorem Kt (l:List Int):(Zh l).Perm l:=List.mergeSort_perm _ _
def Qsh (P:Program) (f:FuncId):Prop:=∀(op:Int) (a b U:List Rn),RnsV a->RnsV b->RnI a->RnI b->RnsV U->(∀x,Qa U x↔X1 op (decide (Qa a x)) (decide (Qa b x))=true)->CallIs P f [.i .i64 op,Qb a,Qb b] (Qb U)
section
variable {P:Program} (hm:P.follows .mixedOrders=true)
include hm
theorem Iz {f fb fi fk:FuncId} (hf:Q9 P f (L10.c fb fi fk) L10.r L10.n) (hb:BoundsC P fb) (hi:InsC P fi) (hk:Qrz P fk):Qsh P f:=by
 intro op a b U va vb ia ib hU hUx
 have hal:=va.len ia
 have hbl:=vb.len ib
 have hbc:=hb.is hal hbl
 have hL1:=Q6z (Zs a++Zs b)
 have hL2:∀x,x∈Zh (Zs a++Zs b)↔x∈Zs a++Zs b:=λx=>(Kt _).mem_iff
 have hLl:(Zh (Zs a++Zs b)).length<=40000:=by rw[(Kt _).length_eq,j3,U3,U3];omega
 generalize Zh (Zs a++Zs b)=L at *
 refine PureC.is (Q7 hm hf (qh rfl) ?_) rfl
 unfold L10.c
 simp[go_sem,Qb]
 refine Q4 hbc ?_
 simp[go_sem,Qb]
 refine Qs [.t 8 2] (α:=Nat × List Rn × Nat) (λp=>CbI op a b L p.1 p.2.1/\(p.1+1<=L.length∨p.1=0))
  (λp=>⟨[(0,.i .i64 op),(1,Qb a),(2,Qb b),(7,isV L),(8,.own 0 (p.2.2+1) 0 p.2.1.length),(9,.i .i64 p.1)],[.arr (p.2.2+1) 2 (p.2.1.map Rn.cs)]⟩)
  (λp=>L.length-p.1) (0,[],0) ⟨CbI.start hL1 hL2,.inr rfl⟩ ?_ ?_
 ·simp[go_sem,Qb,isV]
 rintro⟨i,out,g⟩ ⟨hI,hil⟩
 simp only at hI hil ⊢
 have hol:=hI.len
 by_cases hend:L.length<=i+1
 ·have hUe:=hI.done hL1 hL2 hend hil hU hUx
  subst hUe
  simp (disch:=omega) [go_sem,isV,Q0,show ¬ (i:Int)+1<L.length by omega,L10.r]
  rw[if_pos (En out)];rfl
 have hi1:i+1<L.length:=by omega
 have hi0:i<L.length:=by omega
 have hu:L[i]?=some L[i]:=q9 hi0
 have hv:L[i+1]?=some L[i+1]:=q9 hi1
 have hst:=hI.step hL1 hL2 hu hv
 generalize L[i]=u at *
 generalize L[i+1]=v at *
 obtain⟨_,hu'⟩:=q8.1 hu
 obtain⟨_,hv'⟩:=q8.1 hv
 have hz1:(i:Int)+1<L.length:=by omega
 have hz2:(0:Int)<=(i:Int)+1:=by omega
 by_cases huv:u=v
 ·rw[if_pos (.inl huv)]at hst
  subst huv
  simp (disch:=omega) [go_sem,isV,Qb,hz1,hz2,hi0,hi1,hu,hu',hv,hv',Qrc,Z3,I.news,Q0]
  exact⟨i+1,out,⟨hst,.inl (by omega)⟩,by omega,g,⟨⟨rfl,rfl⟩,by omega⟩,⟨rfl,rfl⟩,Q1h _ _⟩
 have huvb:(u == v)=false:=by simpa using huv
 have c1:=hi a u hal
 have c2:=hi b u hbl
 have c3:=hk op (decide (Qa a u)) (decide (Qa b u))
 by_cases hkp:X1 op (decide (Qa a u)) (decide (Qa b u))=true
 ·rw[if_neg (by rintro (h | h);exact huv h;rw[hkp]at h;simp at h)]at hst
  rw[hkp]at c3
  simp (disch:=omega) [go_sem,isV,Qb,hz1,hz2,hi0,hi1,hu,hu',hv,hv',huv,huvb,Q0]
  refine Ql c1 ?_
  simp (disch:=omega) [go_sem,isV,Qb,hz1,hz2,hi0,hi1,hu,hu',hv,hv',huv,huvb,Q0]
  refine Ql c2 ?_
  simp (disch:=omega) [go_sem,isV,Qb,huv,huvb,Q0]
  refine Ql c3 ?_
  have htk:List.take out.length (out.map Rn.cs)=out.map Rn.cs:=qe (by simp)
  rcases Ji out with rfl | ⟨o,r,rfl⟩
  ·rw[Q7w]at hst
   simp (disch:=omega) [go_sem,isV,Qb,hz1,hz2,hi0,hi1,hu,hu',hv,hv',huv,huvb,Q0]
   exact⟨i+1,_,⟨hst,.inl (by omega)⟩,by omega,g+1,⟨⟨rfl,rfl⟩,by omega⟩,⟨rfl,rfl⟩,Q1h _ _⟩
  ·rw[Q7x]at hst
   have hog:∀x:List V,(List.map Rn.cs o++[x])[o.length]?=some x:=λx=>by
    have:=qf (l₁:=List.map Rn.cs o) (l₂:=[x]) (i:=o.length) (by simp)
    rw[this];simp
   have hos:∀x y:List V,(List.map Rn.cs o++[x]).set o.length y=List.map Rn.cs o++[y]:=λx y=>by
    rw[jm _ _ (by simp)];simp
   have hot:List.take (o.length+1) (List.map Rn.cs o++[r.cs])=List.map Rn.cs o++[r.cs]:=qe (by simp)
   simp only[Rn.cs]at hot
   have hol2:o.length+1<=i:=by simpa using hol
   by_cases hru:r.b=u
   ·rw[if_pos hru]at hst
    simp (disch:=omega) [go_sem,isV,Qb,hz1,hz2,hi0,hi1,hu,hu',hv,hv',huv,huvb,hog,hos,hot,hru,Rn.cs,Q0]
    exact⟨i+1,_,⟨hst,.inl (by omega)⟩,by omega,g,⟨⟨rfl,by simp⟩,by omega⟩,rfl,by simp[Rn.cs]⟩
   ·rw[if_neg hru]at hst
    have hrb:(r.b == u)=false:=by simpa using hru
    simp (disch:=omega) [go_sem,isV,Qb,hz1,hz2,hi0,hi1,hu,hu',hv,hv',huv,huvb,hog,hos,hot,hru,hrb,Rn.cs,Q0]
    exact⟨⟨by omega,by omega⟩,i+1,_,⟨hst,.inl (by omega)⟩,by omega,g+1,⟨⟨rfl,by simp⟩,by omega⟩,rfl,by simp[Rn.cs]⟩
 ·have hkf:X1 op (decide (Qa a u)) (decide (Qa b u))=false:=by simpa using hkp
  rw[if_pos (.inr hkf)]at hst
  rw[hkf]at c3
  simp (disch:=omega) [go_sem,isV,Qb,hz1,hz2,hi0,hi1,hu,hu',hv,hv',huv,huvb,Q0]
  refine Ql c1 ?_
  simp (disch:=omega) [go_sem,isV,Qb,hz1,hz2,hi0,hi1,hu,hu',hv,hv',huv,huvb,Q0]
  refine Ql c2 ?_
  simp (disch:=omega) [go_sem,isV,Qb,huv,huvb,Q0]
  refine Ql c3 ?_
  simp (disch:=omega) [go_sem,Q0]
  exact⟨i+1,out,⟨hst,.inl (by omega)⟩,by omega,g,⟨⟨rfl,rfl⟩,by omega⟩,⟨rfl,rfl⟩,Q1h _ _⟩
end
structure OpI (op:Int) (a b:List Rw) (i k:Nat) (Y:Int) (out:List Rw):Prop where
 i_le:i<=a.length
 k_le:k<=b.length
 alo:∀w∈a.take i,w.y<=Y
 ahi:∀w∈a.drop i,Y<w.y
 blo:∀w∈b.take k,w.y<=Y
 bhi:∀w∈b.drop k,Y<w.y
 v:RgV out
 le:∀w∈out,w.y<=Y
 mem:∀y x,Zx out y x↔y<=Y/\Zx (opR op a b) y x
 len:out.length<=i+k
theorem OpI.start {op:Int} {a b:List Rw} (ha:RgV a) (hb:RgV b) (ba:RgB a) (bb:RgB b):OpI op a b 0 0 (-5000) [] where
 i_le:=by omega
 k_le:=by omega
 alo:=by simp
 ahi w hw:=by have:=ba.yb ha (by simpa using hw);omega
 blo:=by simp
 bhi w hw:=by have:=bb.yb hb (by simpa using hw);omega
 v:=RgV.nil
 le:=by simp
 mem y x:=by
  constructor
  ·rintro⟨w,hw,_⟩;simp at hw
  ·rintro⟨h1,h2⟩;have:=Qnk op a b y x h2;omega
 len:=by simp
open Classical in
theorem OpI.done {op:Int} {a b out:List Rw} {Y:Int} (ha:RgV a) (hb:RgV b) (ba:RgB a) (bb:RgB b) (h:OpI op a b a.length b.length Y out):out=opR op a b:=by
 refine h.v.ext (Qc5 op a b) λy x=>?_
 rw[h.mem]
 constructor
 ·exact λh=>h.2
 ·intro h2
  refine⟨?_,h2⟩
  have h3:=(Qfi ba bb).1 h2
  by_cases c1:Zx a y x
  ·obtain⟨w,hw,rfl,_⟩:=c1
   exact h.alo w (by rw[qi];exact hw)
  ·by_cases c2:Zx b y x
   ·obtain⟨w,hw,rfl,_⟩:=c2
    exact h.blo w (by rw[qi];exact hw)
   ·rw[decide_eq_false c1,decide_eq_false c2,Kl]at h3
    simp at h3
def Y2 (g:List Rw) (y:Int):List Rn:=((g.find? λw=>decide (w.y=y)).map Rw.rs).getD []
theorem Ua {g:List Rw} (hg:RgV g) {w:Rw} (hw:w∈g):Y2 g w.y=w.rs:=by
 unfold Y2
 cases hf:g.find? λv=>decide (v.y=w.y) with
 | none =>
   have:=List.find?_eq_none.1 hf w hw
   simp at this
 | some v =>
   have h1:=List.mem_of_find?_eq_some hf
   have h2:v.y=w.y:=by simpa using List.find?_some hf
   rw[hg.uniq h1 hw h2];rfl
theorem Ub {g:List Rw} {y:Int} (h:∀w∈g,w.y≠y):Y2 g y=[]:=by
 unfold Y2
 rw[List.find?_eq_none.2 λw hw=>by simpa using h w hw];rfl
theorem J9 {g:List Rw} (hg:RgV g) {y x:Int}:Qa (Y2 g y) x↔Zx g y x:=by
 by_cases h:∃w∈g,w.y=y
 ·obtain⟨w,hw,rfl⟩:=h
  rw[Ua hg hw,hg.row hw]
 ·have h2:∀w∈g,w.y≠y:=λw hw he=>h ⟨w,hw,he⟩
  rw[Ub h2]
  constructor
  ·intro h3;exact absurd h3 (Qj _)
  ·rintro⟨w,hw,he,_⟩;exact absurd he (h2 w hw)
theorem Wm {g:List Rw} (hg:RgV g) (hb:RgB g) (y:Int):RnsV (Y2 g y)/\RnI (Y2 g y):=by
 by_cases h:∃w∈g,w.y=y
 ·obtain⟨w,hw,rfl⟩:=h
  rw[Ua hg hw]
  exact⟨hg.rs w hw,hb.rnb hg hw⟩
 ·rw[Ub λw hw he=>h ⟨w,hw,he⟩]
  exact⟨RnsV.nil,by simp[RnI]⟩
open Classical in
theorem Qha {op:Int} {a b:List Rw} (ha:RgV a) (hb:RgV b) (ba:RgB a) (bb:RgB b) (y:Int) :
  RnsV (Y2 (opR op a b) y)/\∀x,Qa (Y2 (opR op a b) y) x↔X1 op (decide (Qa (Y2 a y) x)) (decide (Qa (Y2 b y) x))=true:=by
 refine⟨(Wm (Qc5 op a b) (Qnk op a b) y).1,λx=>?_⟩
 rw[J9 (Qc5 op a b),Qfi ba bb]
 have e1:decide (Qa (Y2 a y) x)=decide (Zx a y x):=decide_eq_decide.2 (J9 ha)
 have e2:decide (Qa (Y2 b y) x)=decide (Zx b y x):=decide_eq_decide.2 (J9 hb)
 rw[e1,e2]
theorem Qb9 {α:Type} {l:List α} {i:Nat} {x w:α} (h:l[i]?=some w):x∈l.take (i+1)↔x∈l.take i∨x=w:=by
 rw[Qc h,qg,qn]
theorem Bp {l:List Rw} (hl:RgV l) {i:Nat} {w:Rw} (h:l[i]?=some w):∀v∈l.drop (i+1),w.y<v.y:=λv hv=>by
 obtain⟨j,hj⟩:=qq hv
 rw[jd]at hj
 obtain⟨h1,h1'⟩:=q8.1 h
 obtain⟨h2,h2'⟩:=q8.1 hj
 have:=j4.1 hl.asc i (i+1+j) h1 h2 (by omega)
 rw[h1',h2']at this
 exact this
theorem Yn {l:List Rw} {i:Nat} {w:Rw} (h:l[i]?=some w):w∈l.drop i:=qb (i:=0) (by rw[jd];exact h)
open Classical in
theorem OpI.step {op:Int} {a b out:List Rw} {i k:Nat} {Y y:Int} (ha:RgV a) (hb:RgV b) (ba:RgB a) (bb:RgB b) (h:OpI op a b i k Y out) {i' k':Nat}
  (hy:Y<y) (h1:(i'=i/\∀w∈a.drop i,y<w.y)∨(i'=i+1/\∃w,a[i]?=some w/\w.y=y)) (h2:(k'=k/\∀w∈b.drop k,y<w.y)∨(k'=k+1/\∃w,b[k]?=some w/\w.y=y)) (h3:i+k<i'+k') :
  OpI op a b i' k' y (if Y2 (opR op a b) y=[] then out else out++[⟨y,Y2 (opR op a b) y⟩]) /\
   Y2 a y=(if i'=i then [] else ((a[i]?).map Rw.rs).getD [])/\Y2 b y=(if k'=k then [] else ((b[k]?).map Rw.rs).getD []):=by
 have nosplit:∀{l:List Rw} {i:Nat},RgV l->(∀w∈l.take i,w.y<=Y)->(∀w∈l.drop i,y<w.y)->∀w∈l,w.y≠y:=by
  intro l i hl q1 q2 w hw he
  rw[<- List.take_append_drop i l]at hw
  rcases qg.1 hw with hw | hw
  ·have:=q1 w hw;omega
  ·have:=q2 w hw;omega
 have gap:∀z,Y<z->z<y->∀x,¬ Zx (opR op a b) z x:=by
  have g1:∀{l:List Rw} {i i':Nat},RgV l->(∀w∈l.take i,w.y<=Y)->((i'=i/\∀w∈l.drop i,y<w.y)∨(i'=i+1/\∃w,l[i]?=some w/\w.y=y))->∀z,Y<z->z<y->∀x,¬ Zx l z x:=by
   rintro l i i' hl q1 q2 z hz1 hz2 x ⟨w,hw,rfl,_⟩
   rcases q2 with⟨_,q2⟩ | ⟨_,v,hv,hvy⟩
   ·rw[<- List.take_append_drop i l]at hw
    rcases qg.1 hw with hw | hw
    ·have:=q1 w hw;omega
    ·have:=q2 w hw;omega
   ·rw[<- List.take_append_drop (i+1) l]at hw
    rcases qg.1 hw with hw | hw
    ·rcases (Qb9 hv).1 hw with hw | rfl
     ·have:=q1 w hw;omega
     ·omega
    ·have:=Bp hl hv w hw;omega
  intro z hz1 hz2 x hx
  have h4:=(Qfi ba bb).1 hx
  rw[decide_eq_false (g1 ha h.alo h1 z hz1 hz2 x),decide_eq_false (g1 hb h.blo h2 z hz1 hz2 x),Kl]at h4
  simp at h4
 have hrow:∀{l:List Rw} {i i':Nat},RgV l->(∀w∈l.take i,w.y<=Y)->((i'=i/\∀w∈l.drop i,y<w.y)∨(i'=i+1/\∃w,l[i]?=some w/\w.y=y))->Y2 l y=(if i'=i then [] else ((l[i]?).map Rw.rs).getD []):=by
  rintro l i i' hl q1 (⟨rfl,q2⟩ | ⟨rfl,v,hv,rfl⟩)
  ·rw[if_pos rfl,Ub (nosplit hl q1 q2)]
  ·rw[if_neg (by omega),hv,Ua hl (qb hv)];rfl
 have hlo:∀{l:List Rw} {i i':Nat},i<=l.length->(∀w∈l.take i,w.y<=Y)->((i'=i/\∀w∈l.drop i,y<w.y)∨(i'=i+1/\∃w,l[i]?=some w/\w.y=y))->RgV l->i'<=l.length/\(∀w∈l.take i',w.y<=y)/\∀w∈l.drop i',y<w.y:=by
  rintro l i i' hle q1 (⟨rfl,q2⟩ | ⟨rfl,v,hv,rfl⟩) hl
  ·exact⟨hle,λw hw=>by have:=q1 w hw;omega,q2⟩
  ·refine⟨(q8.1 hv).1,λw hw=>?_,Bp hl hv⟩
   rcases (Qb9 hv).1 hw with hw | rfl
   ·have:=q1 w hw;omega
   ·omega
 obtain⟨a1,a2,a3⟩:=hlo h.i_le h.alo h1 ha
 obtain⟨b1,b2,b3⟩:=hlo h.k_le h.blo h2 hb
 have hlen:=h.len
 refine⟨?_,hrow ha h.alo h1,hrow hb h.blo h2⟩
 have hv:=Qha (op:=op) ha hb ba bb y
 have hin:∀x,Qa (Y2 (opR op a b) y) x↔Zx (opR op a b) y x:=λx=>J9 (Qc5 op a b)
 by_cases he:Y2 (opR op a b) y=[]
 ·rw[if_pos he]
  refine⟨a1,b1,a2,a3,b2,b3,h.v,λw hw=>by have:=h.le w hw;omega,λz x=>?_,by omega⟩
  rw[h.mem]
  constructor
  ·rintro⟨c1,c2⟩;exact⟨by omega,c2⟩
  ·rintro⟨c1,c2⟩
   refine⟨j7 λhn=>?_,c2⟩
   by_cases hz:z=y
   ·subst hz
    rw[<- hin,he]at c2
    exact Qj _ c2
   ·exact gap z (by omega) (by omega) x c2
 ·rw[if_neg he]
  refine⟨a1,b1,a2,a3,b2,b3,h.v.snocW hv.1 he λu hu=>by have:=h.le u hu;simp only[];omega,λw hw=>?_,λz x=>?_,by simp;omega⟩
  ·rcases qg.1 hw with hw | hw
   ·have:=h.le w hw;omega
   ·rw[qn.1 hw];exact Int.le_refl _
  ·rw[Qp2,Qp1,h.mem]
   simp only[hin]
   constructor
   ·rintro (⟨c1,c2⟩ | ⟨rfl,c2⟩)
    ·exact⟨by omega,c2⟩
    ·exact⟨Int.le_refl _,c2⟩
   ·rintro⟨c1,c2⟩
    by_cases hz:z=y
    ·subst hz;exact .inr ⟨rfl,c2⟩
    ·refine .inl ⟨j7 λhn=>?_,c2⟩
     exact gap z (by omega) (by omega) x c2
end Go.Abs
