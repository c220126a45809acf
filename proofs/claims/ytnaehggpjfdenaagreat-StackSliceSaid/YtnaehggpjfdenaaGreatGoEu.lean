/- Part of the library on which the proof stands: an abstract machine, its values and its soundness against the model; or what functions of the program do to such values. -/
import Derived.Test.YtnaehggpjfdenaaGreatGoSkB
import Derived.Test.YtnaehggpjfdenaaGreatGoOy
import Derived.Test.YtnaehggpjfdenaaGreatGoSkC
import Derived.Test.YtnaehggpjfdenaaGreatGoLpB
import Derived.Test.YtnaehggpjfdenaaGreatGoRsA
import Derived.Test.YtnaehggpjfdenaaGreatGoShpD
import Derived.Test.YtnaehggpjfdenaaGreatGoSo
set_option linter.unusedVariables false
set_option linter.unusedSimpArgs false
set_option maxHeartbeats 16000000
set_option maxRecDepth 20000
namespace Go.Abs
def InvC (P:Program) (f:FuncId):Prop:=∀m:Mesh,m.check=0->CallIs P f [m.enc] (.b m.inv)
def ChkC (P:Program) (f:FuncId):Prop:=∀m:Mesh,CallIs P f [m.enc] (.i .i64 (Ue m))
def NoneTo {α:Type} (p:α->Bool) (l:List α) (k:Nat):Prop:=(l.take k).any p=false
theorem NoneTo.zero {α:Type} (p:α->Bool) (l:List α):NoneTo p l 0:=by simp[NoneTo]
theorem NoneTo.all {α:Type} {p:α->Bool} {l:List α} (h:NoneTo p l l.length):l.any p=false:=by unfold NoneTo at h;rwa [qi]at h
theorem Qdm {α:Type} (p:α->Bool) {l:List α} {k:Nat} {a:α} (h:l[k]?=some a) (hn:NoneTo p l k) (ha:p a=false):NoneTo p l (k+1):=by
 unfold NoneTo at *
 rw[Qa h,List.any_append,hn];simp[ha]
theorem Qka {α:Type} (p:α->Bool) {l:List α} {k:Nat} {a:α} (h:l[k]?=some a) (ha:p a=true):l.any p=true :=
 List.any_eq_true.2 ⟨a,qb h,ha⟩
theorem degI_at {m:Mesh} (hz:m.check=0) {k:Nat} {t:T3} (h:m.tris[k]?=some t):m.degI (k:Int)=m.deg t:=by
 have hl:=(q8.1 h).1
 unfold Mesh.degI
 rw[if_pos ⟨by omega,by omega,hz⟩,Int.toNat_natCast,h]
theorem chkR_1 {m:Mesh} (h:m.check≠0):Ue m=m.check:=by unfold Ue;rw[if_pos h]
theorem chkR_2 {m:Mesh} (h:m.check=0) (h2:m.closed=false):Ue m=12:=by unfold Ue;rw[if_neg (by simpa using h),if_pos h2]
theorem chkR_3 {m:Mesh} (h:m.check=0) (h2:m.closed=true) (h3:Q1t m.tris=false):Ue m=13:=by unfold Ue;rw[if_neg (by simpa using h),if_neg (by rw[h2];simp),if_pos h3]
theorem chkR_4 {m:Mesh} (h:m.check=0) (h2:m.closed=true) (h3:Q1t m.tris=true):Ue m=if m.tris.any m.deg=true then 1 else if m.inv=true then 1 else 0:=by
 unfold Ue;rw[if_neg (by simpa using h),if_neg (by rw[h2];simp),if_neg (by rw[h3];simp)]
theorem Qsu {m:Mesh} (h:m.check=0):m.coh=Q1t m.tris:=by unfold Mesh.coh;rw[h];simp
section
variable {P:Program} (hm:P.follows .mixedOrders=true)
include hm
theorem I6 {f fs fv:FuncId} (hf:Q9 P f (L1x.c fs fv) L1x.r L1x.n) (hs:Qct P fs) (hv:VolC P fv):InvC P f:=by
 intro m hz
 obtain⟨z1,z2,z3,z4⟩:=Mesh.check_zero.1 hz
 have hok:=Qle hz
 have hs1:=hs m
 unfold Mesh.inv
 generalize m.shells=shs at *
 generalize hp:(λsh=>decide (Xa m.verts (Zm m.tris sh)<0))=p
 generalize hB:shs.any p=B
 refine PureC.is (Q6 hm hf (qh rfl) ?_) rfl
 unfold L1x.c
 simp[go_sem,Mesh.enc,Mesh.cs,vsV,tsV]
 refine Q4 hs1 ?_
 simp[go_sem,lsV]
 have hsv:∀(n:Nat) (a:V3),List.map (V.sh1 n) a.cs=a.cs:=λn a=>by simp[vcs,V.sh1,V.sh0]
 have hst:∀(n:Nat) (a:T3),List.map (V.sh1 n) a.cs=a.cs:=λn a=>by simp[tcs,V.sh1,V.sh0]
 refine Qc (α:=Nat) (λk=>k<=shs.length/\NoneTo p shs k)
  (λk=>⟨[(1,.p 0 1 0 0),(9,lsV shs),(10,.i .i64 shs.length),(11,.i .i64 k)],
   [.arr 1 2 [m.cs]]⟩)
  (λk=>shs.length-k) 0 ⟨Nat.zero_le _,NoneTo.zero _ _⟩ ?_ ?_
 ·simp[go_sem,lsV,Mesh.cs,vsV,tsV,Qdi,I3,hsv,hst]
 ·rintro k ⟨hk,hno⟩
  by_cases hkl:k=shs.length
  ·subst hkl
   obtain rfl:=hB.symm.trans hno.all
   simp[go_sem,lsV,L1x.r]
  ·have hlt:k<shs.length:=by omega
   have hnum:=hok.num
   have hq:shs[k]?=some shs[k]:=q9 hlt
   have hmw:shs[k]∈shs:=List.getElem_mem _
   generalize shs[k]=sh at hq hmw
   obtain⟨_,hq'⟩:=q8.1 hq
   have hshl:=hok.len sh hmw
   have hshm:=hok.mem sh hmw
   simp[go_sem,lsV,hlt,hq,hq',Mesh.cs,vsV,tsV,isV]
   refine Qx [.c 1 0 1 3] (α:=Nat) (λj=>j<=sh.length)
    (λj=>⟨[(1,.p 0 1 0 0),(4,isV sh),(5,.p 1 1 0 0),(9,lsV shs),(10,.i .i64 shs.length),(11,.i .i64 k),(18,isV sh),(19,.i .i64 sh.length),(20,.i .i64 j)],
     [.arr 1 2 [m.cs],.arr 1 2 [[vsV m.verts,.own 2 (j+1) 0 j]],.arr (j+1) 3 ((Zm m.tris (sh.take j)).map T3.cs)]⟩)
    (λj=>sh.length-j) 0 (Nat.zero_le _) ?_ ?_
   ·simp[go_sem,lsV,isV,Zm,Mesh.cs,vsV,tsV,Qdi,I3]
   ·intro j hj
    by_cases hjl:j=sh.length
    ·subst hjl
     rw[qi]
     have hpl:=Q5p m.tris sh
     have hvol:=hv ⟨m.verts,Zm m.tris sh⟩
     have hve:(Mesh.mk m.verts (Zm m.tris sh)).vol6=Xa m.verts (Zm m.tris sh):=by unfold Mesh.vol6;rw[if_pos (Qh4 hz hshl hshm)]
     rw[hve]at hvol
     have hps:p sh=decide (Xa m.verts (Zm m.tris sh)<0):=by rw[<- hp]
     generalize Zm m.tris sh=PT at *
     have htkp:List.take sh.length (PT.map T3.cs)=PT.map T3.cs:=qe (by simp;omega)
     simp[go_sem,lsV,isV]
     refine Y8 (vs:=[(Mesh.mk m.verts PT).enc]) ?_ hvol ?_
     ·simp[go_sem,Y9,frz,X1,Mesh.enc,Mesh.cs,vsV,tsV,Qj7,htkp,hpl]
     ·by_cases hneg:Xa m.verts PT<0
      ·have ha:shs.any p=true:=Qka p hq (by rw[hps];simpa using hneg)
       obtain rfl:=hB.symm.trans ha
       simp (disch:=omega) [go_sem,vsV,tsV,hneg,L1x.r]
      ·have ha:=Qdm p hq hno (by rw[hps];simpa using hneg)
       simp (disch:=omega) [go_sem,vsV,tsV,hneg,Q0]
       refine⟨k+1,⟨by omega,ha⟩,by omega,?_⟩
       simp (disch:=omega) [go_sem,lsV,Mesh.cs,vsV,tsV,Qdi,I3,Q0]
    ·have hjlt:j<sh.length:=by omega
     have hq2:sh[j]?=some sh[j]:=q9 hjlt
     have hqm:sh[j]∈sh:=List.getElem_mem _
     have hpj:=λv (h:sh[j]?=some v)=>Qeg (ts:=m.tris) h
     generalize sh[j]=v at hq2 hqm
     have hpj:=hpj v hq2
     obtain⟨_,hq2'⟩:=q8.1 hq2
     obtain⟨v0,v1⟩:=hshm v hqm
     have v2:v.toNat<m.tris.length:=by omega
     have ht:=Zr v2
     have hpl:=Q5p m.tris (sh.take j)
     rw[qv,Nat.min_eq_left (by omega)]at hpl
     generalize tAt m.tris v.toNat=t at ht hpj
     obtain⟨_,ht'⟩:=q8.1 ht
     generalize hPT:Zm m.tris (sh.take j)=PT at *
     have htkp:List.take j (PT.map T3.cs)=PT.map T3.cs:=qe (by simp;omega)
     simp (disch:=omega) [go_sem,lsV,isV,Mesh.cs,vsV,tsV,hjlt,hq2,hq2',v0,v1,v2,ht,ht',tcs,htkp,hpl,Q0]
     refine⟨⟨by omega,by omega⟩,j+1,by omega,by omega,?_⟩
     rw[hpj]
     exact⟨by omega,rfl,by rw[qx];rfl⟩
theorem Q2w {f fc fl fh fd fi:FuncId} (hf:Q9 P f (L1w.c fc fl fh fd fi) L1w.r L1w.n) (hc:X6 P fc) (hl:Qd6 P fl) (hh:Q28 P fh) (hd:DegC P fd) (hi:InvC P fi):ChkC P f:=by
 intro m
 have hl1:=hl m
 have hh1:=hh m
 by_cases hz:m.check=0
 case neg =>
  rw[chkR_1 hz]
  refine PureC.is (Q6 hm hf (qh rfl) ?_) rfl
  unfold L1w.c
  simp[go_sem,Mesh.enc,Mesh.cs]
  refine Q4 (hc m) ?_
  simp[go_sem,hz,L1w.r]
 obtain⟨z1,z2,z3,z4⟩:=Mesh.check_zero.1 hz
 rw[Qsu hz]at hh1
 by_cases hcl:m.closed=false
 case pos =>
  rw[chkR_2 hz hcl]
  rw[hcl]at hl1
  refine PureC.is (Q6 hm hf (qh rfl) ?_) rfl
  unfold L1w.c
  simp[go_sem,Mesh.enc,Mesh.cs]
  refine Q4 (hc m) ?_
  simp[go_sem,hz]
  refine Q4 hl1 ?_
  simp[go_sem,L1w.r]
 have hcl':m.closed=true:=by simpa using hcl
 rw[hcl']at hl1
 by_cases hco:Q1t m.tris=false
 case pos =>
  rw[chkR_3 hz hcl' hco]
  rw[hco]at hh1
  refine PureC.is (Q6 hm hf (qh rfl) ?_) rfl
  unfold L1w.c
  simp[go_sem,Mesh.enc,Mesh.cs]
  refine Q4 (hc m) ?_
  simp[go_sem,hz]
  refine Q4 hl1 ?_
  simp[go_sem]
  refine Q4 hh1 ?_
  simp[go_sem,L1w.r]
 have hco':Q1t m.tris=true:=by simpa using hco
 rw[hco']at hh1
 rw[chkR_4 hz hcl' hco']
 generalize hA:m.tris.any m.deg=A
 refine PureC.is (Q6 hm hf (qh rfl) ?_) rfl
 unfold L1w.c
 simp[go_sem,Mesh.enc,Mesh.cs,vsV,tsV]
 refine Q4 (hc m) ?_
 simp[go_sem,hz]
 refine Q4 hl1 ?_
 simp[go_sem]
 refine Q4 hh1 ?_
 have hsv:∀(n:Nat) (a:V3),List.map (V.sh1 n) a.cs=a.cs:=λn a=>by simp[vcs,V.sh1,V.sh0]
 have hst:∀(n:Nat) (a:T3),List.map (V.sh1 n) a.cs=a.cs:=λn a=>by simp[tcs,V.sh1,V.sh0]
 simp[go_sem]
 refine Qc (α:=Nat) (λk=>k<=m.tris.length/\NoneTo m.deg m.tris k)
  (λk=>⟨[(1,.p 0 1 0 0),(18,.i .i64 m.tris.length),(19,.i .i64 k)],[.arr 1 2 [m.cs]]⟩)
  (λk=>m.tris.length-k) 0 ⟨Nat.zero_le _,NoneTo.zero _ _⟩ ?_ ?_
 ·simp[go_sem,Mesh.cs,vsV,tsV,Qdi,I3,hsv,hst]
 ·rintro k ⟨hk,hno⟩
  by_cases hkl:k=m.tris.length
  ·subst hkl
   obtain rfl:=hA.symm.trans hno.all
   have hi1:=hi m hz
   simp[go_sem,Mesh.cs,vsV,tsV]
   refine Q4 hi1 ?_
   cases hin:m.inv<;>simp[go_sem,L1w.r]
  ·have hlt:k<m.tris.length:=by omega
   have hq:=Zr hlt
   have hdk:=hd m (k:Int)
   rw[degI_at hz hq]at hdk
   simp[go_sem,hlt,Mesh.cs,vsV,tsV]
   refine Q4 hdk ?_
   cases hdg:m.deg (tAt m.tris k) with
   | true =>
     have ha:m.tris.any m.deg=true:=Qka _ hq hdg
     obtain rfl:=hA.symm.trans ha
     simp[go_sem,L1w.r]
   | false =>
     have ha:=Qdm _ hq hno hdg
     simp (disch:=omega) [go_sem,Q0]
     refine⟨k+1,⟨by omega,ha⟩,by omega,?_⟩
     simp[go_sem,Mesh.cs,vsV,tsV,Qdi,I3]
end
structure Sett where
 pitch:Int
 height:Int
 walls:Int
 top:Int
 bottom:Int
 pattern:Int
 spacing:Int
 support:Bool
 reach:Int
 gap:Int
 brim:Int
 skirt:Int
 drop:Int
 feed:Int
 travel:Int
 retract:Int
 minTime:Int
 minFeed:Int
 nozzle:Int
 bed:Int
def Sett.cs (s:Sett):List V:=[.i .i64 s.pitch,.i .i64 s.height,.i .i64 s.walls,.i .i64 s.top,.i .i64 s.bottom,.i .i64 s.pattern,.i .i64 s.spacing,.b s.support,.i .i64 s.reach,.i .i64 s.gap,
 .i .i64 s.brim,.i .i64 s.skirt,.i .i64 s.drop,.i .i64 s.feed,.i .i64 s.travel,.i .i64 s.retract,.i .i64 s.minTime,.i .i64 s.minFeed,.i .i64 s.nozzle,.i .i64 s.bed]
def Sett.enc (s:Sett):V:=.a s.cs
def Qis (P:Program) (f:FuncId):Prop:=∀(m:Mesh) (s:Sett),CallIs P f [m.enc,s.enc] (.t [Kd (Jx m s.pitch s.height).1,.i .i64 (Jx m s.pitch s.height).2])
theorem Qod {l:List V3} (h:J9 l=true) {v:V3} (hv:v∈l):v.valid=true:=by
 unfold J9 at h
 exact qj.1 h v hv
theorem bHi_bd {l:List V3} (hl:l≠[]) (hv:∀v∈l,v.valid=true):(bHi l).z<=65536/\-65536<=(bHi l).z:=by
 have hb:∀v∈l,v.z<=65536/\-65536<=v.z:=λv h=>by
  have:=V3.val_iff.1 (hv v h)
  omega
 cases l with
 | nil=>exact absurd rfl hl
 | cons v l =>
   unfold bHi
   rw[(Qta (v::l) v).2.2]
   rcases (Qq3 V3.z (v::l) v.z).2.2 with h | ⟨w,hw,h⟩
   ·rw[h];exact hb v (by simp)
   ·rw[h];exact hb w hw
def rgE (g:List Rw):List V:=[rwL g]
theorem Qaw (l:List (List Rw)) (n:Nat):∀g∈l,∀x∈rgE g,x.cl n=true:=λg _ x hx=>by
 simp[rgE]at hx
 subst hx
 rfl
theorem Qjb (l:List (List Rw)):∀g∈l,∀x∈rgE g,x.isD=true:=λg _ x hx=>by
 simp[rgE]at hx
 subst hx
 rfl
theorem Jb (l:List (List Rw)):Kd l=.l 1 (l.map rgE):=rfl
section
variable {P:Program} (hm:P.follows .mixedOrders=true)
include hm
theorem Q7m {f fc fb fh fs:FuncId} (hf:Q9 P f (L2q.c fc fb fh fs) L2q.r L2q.n) (hc:ChkC P fc) (hb:Quf P fb) (hh:HgtC P fh) (hs:B3 P fs):Qis P f:=by
 intro m s
 have hcc:=hc m
 have hnil:∀e:Int,Le (.t [.nil,.i .i64 e]) (.t [Kd [],.i .i64 e]):=λe=>.inr ⟨_,_,rfl,rfl,.inl (Le0.nil 1),Le1.refl _,trivial⟩
 unfold Jx
 by_cases h0:Ue m=0
 case neg =>
  rw[if_pos h0]
  refine CallIs.res (r:=.t [.nil,.i .i64 (Ue m)]) ?_ (hnil _)
  refine PureC.is (Q6 hm hf (qh rfl) ?_) rfl
  have hb:(Ue m != 0)=true:=by simpa using h0
  unfold L2q.c
  simp[go_sem,Mesh.enc,Mesh.cs,Sett.enc,Sett.cs]
  refine Q4 hcc ?_
  simp[go_sem,h0,hb,L2q.r]
 rw[if_neg (by simp[h0])]
 rw[h0]at hcc
 have hmc:=(snd_iff.1 h0).z
 have hbc:=hb m hmc
 by_cases hv:m.verts=[]
 ·rw[if_pos hv]
  rw[decide_eq_false (by simp[hv])]at hbc
  refine CallIs.res (r:=.t [.nil,.i .i64 0]) ?_ (hnil _)
  refine PureC.is (Q6 hm hf (qh rfl) ?_) rfl
  unfold L2q.c
  simp[go_sem,Mesh.enc,Mesh.cs,Sett.enc,Sett.cs]
  refine Q4 hcc ?_
  simp[go_sem]
  refine Q4 hbc ?_
  simp[go_sem,V3.enc,V3.cs,L2q.r]
 rw[if_neg hv]
 rw[decide_eq_true hv]at hbc
 by_cases hz:(bLo m.verts).z<0
 ·rw[if_pos hz]
  refine CallIs.res (r:=.t [.nil,.i .i64 8]) ?_ (hnil _)
  refine PureC.is (Q6 hm hf (qh rfl) ?_) rfl
  unfold L2q.c
  simp[go_sem,Mesh.enc,Mesh.cs,Sett.enc,Sett.cs]
  refine Q4 hcc ?_
  simp[go_sem]
  refine Q4 hbc ?_
  simp[go_sem,V3.enc,V3.cs,hz,L2q.r]
 rw[if_neg hz]
 have hzb:=bHi_bd hv λv hv=>Qod (Mesh.check_zero.1 hmc).2.2.1 hv
 have hhc:=hh (bHi m.verts).z s.height (by omega) (by omega)
 have hhl:=Qf2 (bHi m.verts).z s.height
 generalize Q1m (bHi m.verts).z s.height=H at *
 obtain⟨zs,e⟩:=H
 simp only at hhc hhl ⊢
 by_cases he:e=0
 case neg =>
  rw[if_pos he]
  have heb:(e != 0)=true:=by simpa using he
  refine CallIs.res (r:=.t [.nil,.i .i64 e]) ?_ (hnil _)
  refine PureC.is (Q6 hm hf (qh rfl) ?_) rfl
  unfold L2q.c
  simp[go_sem,Mesh.enc,Mesh.cs,Sett.enc,Sett.cs]
  refine Q4 hcc ?_
  simp[go_sem]
  refine Q4 hbc ?_
  simp[go_sem,V3.enc,V3.cs,hz]
  refine Q4 hhc ?_
  simp[go_sem,he,heb,L2q.r]
 rw[if_neg (by simp[he])]
 subst he
 refine CallIs.res (r:=.t [if (W5 m s.pitch zs).2≠0 then .nil else Kd (W5 m s.pitch zs).1,.i .i64 (W5 m s.pitch zs).2]) ?_ (by
  by_cases h1:(W5 m s.pitch zs).2=0
  ·rw[if_neg (by simp[h1])]
   exact Le.refl _
  ·rw[if_pos h1]
   have h2:(W5 m s.pitch zs).1=[]:=by
    by_cases h3:∀z∈zs,(Zd m z s.pitch).2=0
    ·rw[Ba h3]at h1
     simp at h1
    ·cases zs with
     | nil=>rfl
     | cons z zs =>
       unfold W5 at h1 ⊢
       split
       ·rfl
       ·split
        ·rfl
        ·rename_i q1 q2
         rw[if_neg q1,if_neg q2]at h1
         simp at h1
   rw[h2]
   exact hnil _)
 refine PureC.is (Q6 hm hf (qh rfl) ?_) rfl
 unfold L2q.c
 simp[go_sem,Mesh.enc,Mesh.cs,Sett.enc,Sett.cs]
 refine Q4 hcc ?_
 simp[go_sem]
 refine Q4 hbc ?_
 simp[go_sem,V3.enc,V3.cs,hz]
 refine Q4 hhc ?_
 simp[go_sem,isV]
 obtain⟨T,hT⟩:∃T:Nat->List (List Rw),∀i,T i=(zs.take i).map λz=>(Zd m z s.pitch).1:=⟨_,λ_=>rfl⟩
 have hT0:T 0=[]:=by rw[hT];rfl
 have hTl:∀i,i<=zs.length->(T i).length=i:=λi hi=>by rw[hT,List.length_map,qv];omega
 refine Qx [.t 12 1] (α:=Nat) (λi=>i<=zs.length/\∀z∈zs.take i,(Zd m z s.pitch).2=0)
  (λi=>⟨[(2,.p 0 1 0 0),(3,.p 1 1 0 0),(12,.own 4 (i+1) 0 (T i).length),(44,isV zs),(45,.i .i64 zs.length),(46,.i .i64 i)],[.arr 1 2 [m.cs],.arr 1 20 [s.cs],.dead,.dead,.arr (i+1) 1 ((T i).map rgE)]⟩)
  (λi=>zs.length-i) 0 ⟨Nat.zero_le _,by simp⟩ ?_ ?_
 ·simp[go_sem,isV,hT0,Mesh.cs,Sett.cs]
  exact⟨rfl,rfl⟩
 rintro i ⟨hi,hok⟩
 have hTi:=hTl i hi
 by_cases hil:i=zs.length
 ·subst hil
  rw[qi]at hok
  have hall:=Ba hok
  have hTn:T zs.length=zs.map λz=>(Zd m z s.pitch).1:=by rw[hT,qi]
  rw[hall,<- hTn]
  have ht:List.take zs.length ((T zs.length).map rgE)=(T zs.length).map rgE:=qe (by simp[hTi])
  generalize T zs.length=L at *
  simp (disch:=omega) [go_sem,isV,hTi,ht,Jb,L2q.r]
  rw[if_pos (Qjb L)];rfl
 have hlt:i<zs.length:=by omega
 have hq:zs[i]?=some zs[i]:=q9 hlt
 have hTs:T (i+1)=T i++[(Zd m zs[i] s.pitch).1]:=by rw[hT,hT,Qa hq,qx];rfl
 have hsc:=hs m zs[i] s.pitch
 have hbad:=Qdz (m:=m) (k:=s.pitch) hq hok
 have hnext:(Zd m zs[i] s.pitch).2=0->∀z∈zs.take (i+1),(Zd m z s.pitch).2=0:=λh z hz=>by
  rw[Qa hq]at hz
  rcases qg.1 hz with hz | hz
  ·exact hok z hz
  ·rw[qn.1 hz];exact h
 generalize Zd m zs[i] s.pitch=R at *
 obtain⟨g,e⟩:=R
 simp only at hTs hsc hbad hnext
 generalize zs[i]=z at *
 obtain⟨_,hq'⟩:=q8.1 hq
 simp only[Mesh.enc,Mesh.cs,rgV]at hsc
 have htk:List.take i ((T i).map rgE)=(T i).map rgE:=qe (by simp[hTi])
 simp (disch:=omega) [go_sem,isV,hlt,hq,hq',Mesh.cs,Sett.cs,Q0]
 refine Q4 hsc ?_
 by_cases he:e=0
 ·subst he
  have hnx:=hnext rfl
  simp (disch:=omega) [go_sem,isV,hTi,htk,V.cells,V.okA,Q0]
  exact⟨⟨by omega,by omega⟩,i+1,⟨by omega,hnx⟩,by omega,⟨⟨rfl,by rw[hTs];simp[hTi]⟩,by omega⟩,⟨rfl,rfl⟩,⟨rfl,by rw[hTs];simp[rgE,rwL]⟩,Qaw _ _⟩
 ·have heb:(e != 0)=true:=by simpa using he
  rw[hbad he]
  simp (disch:=omega) [go_sem,isV,he,heb,V.cells,V.okA,L2q.r]
end
theorem Qlb (l:List Int):(Zt l).Pairwise λx y=>x<=y:=by
 have:=List.pairwise_mergeSort (le:=λx y:Int=>decide (x<=y)) (by intro a b c;simp;omega) (by intro a b;simp;omega) l
 exact this.imp λh=>by simpa using h
theorem Q4s (l:List Int):(Zt l).Perm l:=List.mergeSort_perm _ _
def J4 (g:List Rw) (y:Int):List Rn:=((g.find? λw=>decide (w.y=y)).map Rw.rs).getD []
theorem Q0q {g:List Rw} (hg:RgV g) {w:Rw} (hw:w∈g):J4 g w.y=w.rs:=by
 unfold J4
 cases hf:g.find? λv=>decide (v.y=w.y) with
 | none =>
   have:=List.find?_eq_none.1 hf w hw
   simp at this
 | some v =>
   have h1:=List.mem_of_find?_eq_some hf
   have h2:v.y=w.y:=by simpa using List.find?_some hf
   rw[hg.uniq h1 hw h2];rfl
theorem Q0r {g:List Rw} {y:Int} (h:∀w∈g,w.y≠y):J4 g y=[]:=by
 unfold J4
 rw[List.find?_eq_none.2 λw hw=>by simpa using h w hw];rfl
theorem By {g:List Rw} (hg:RgV g) {y x:Int}:Qj (J4 g y) x↔Xx g y x:=by
 by_cases h:∃w∈g,w.y=y
 ·obtain⟨w,hw,rfl⟩:=h
  rw[Q0q hg hw,hg.row hw]
 ·have h2:∀w∈g,w.y≠y:=λw hw he=>h ⟨w,hw,he⟩
  rw[Q0r h2]
  constructor
  ·intro h3;exact absurd h3 (Qm _)
  ·rintro⟨w,hw,he,_⟩;exact absurd he (h2 w hw)
theorem Qav {g:List Rw} (hg:RgV g) (hb:RgB g) (y:Int):RnsV (J4 g y)/\RnI (J4 g y):=by
 by_cases h:∃w∈g,w.y=y
 ·obtain⟨w,hw,rfl⟩:=h
  rw[Q0q hg hw]
  exact⟨hg.rs w hw,hb.rnb hg hw⟩
 ·rw[Q0r λw hw he=>h ⟨w,hw,he⟩]
  exact⟨RnsV.nil,by simp[RnI]⟩
theorem CallIs.lel {P:Program} {f:FuncId} {us vs:List V} {r:V} (hl:LeL Le us vs) (h:CallIs P f vs r):CallIs P f us r:=λhh J m w cargs hr hp =>
 h hh J m w cargs hr (LeL.pw (R:=Le) (Q:=RV J m w) (λu v c h1 h2=>h1.rv h2) hl hp)
def UniC (P:Program) (f:FuncId):Prop:=∀a b:List Rw,RgV a->RgV b->RgB a->RgB b->CallIs P f [rgV a,rgV b] (rgV (Km a b))
def msV (ms:List Mesh):V:=.l 2 (ms.map Mesh.cs)
def Qti (P:Program) (f:FuncId):Prop:=∀(c:V) (g r:List Rw),(c=rwL g∨(c=.nil/\g=[]))->RgV g->RgB g->RgV r->RgB r->CallIs P f [.l 1 [[c],[rwL r]]] (rgV (Km g r))
def Qcs (P:Program) (f:FuncId):Prop:=∀(ms:List Mesh) (s:Sett),ms.length<=1000->CallIs P f [msV ms,s.enc] (.t [Kd (Uo ms s.pitch s.height).1,.i .i64 (Uo ms s.pitch s.height).2])
noncomputable def El (acc l:List (List Rw)) (j:Nat):List (List Rw):=(List.range (max acc.length j)).map λi=>if i<j then Km (atR acc i) (atR l i) else atR acc i
theorem Ks (acc l:List (List Rw)) (j:Nat):(El acc l j).length=max acc.length j:=by simp[El]
theorem U1 {acc l:List (List Rw)} {j i:Nat} (h:i<max acc.length j):(El acc l j)[i]?=some (if i<j then Km (atR acc i) (atR l i) else atR acc i):=by
 unfold El
 rw[qp,jn h];rfl
theorem Qm5 {acc l:List (List Rw)}:El acc l 0=acc:=by
 refine qy λi=>?_
 by_cases hi:i<acc.length
 ·rw[U1 (by omega),if_neg (by omega)]
  unfold atR
  rw[q9 hi];rfl
 ·rw[qk (by rw[Ks];omega),qk (by omega)]
theorem Qq8 {acc l:List (List Rw)} (ha:Wr acc):El acc l l.length=Q4k acc l:=by
 refine qy λi=>?_
 by_cases hi:i<max acc.length l.length
 ·rw[U1 hi,Qdl hi]
  split
  ·rfl
  ·have e:atR l i=[]:=by unfold atR;rw[qk (by omega)];rfl
   rw[e,Qkj (Qtb ha i).1 (Qtb ha i).2]
 ·rw[qk (by rw[Ks];omega),qk (by rw[Q4j];omega)]
theorem Qq7 {acc l:List (List Rw)} {j:Nat} (h:acc.length<=j):El acc l (j+1)=El acc l j++[Km (atR acc j) (atR l j)]:=by
 unfold El
 rw[show max acc.length (j+1)=j+1 by omega,show max acc.length j=j by omega,List.range_succ,qx]
 congr 1
 ·refine ju λi hi=>?_
  have:=qz.1 hi
  rw[if_pos (by omega),if_pos (by omega)]
 ·simp
theorem Qq6 {acc l:List (List Rw)} {j:Nat} (h:j<acc.length):El acc l (j+1)=(El acc l j).set j (Km (atR acc j) (atR l j)):=by
 refine qy λi=>?_
 rw[List.getElem?_set]
 by_cases hi:i<acc.length
 ·rw[U1 (by omega)]
  by_cases he:j=i
  ·subst he
   rw[if_pos rfl,if_pos (show j<j+1 by omega),if_pos (show j<(El acc l j).length by rw[Ks];omega)]
  ·rw[if_neg he,U1 (by omega)]
   by_cases h2:i<j
   ·rw[if_pos h2,if_pos (by omega)]
   ·rw[if_neg h2,if_neg (by omega)]
 ·rw[qk (by rw[Ks];omega),if_neg (by omega),qk (by rw[Ks];omega)]
section
variable {P:Program} (hm:P.follows .mixedOrders=true)
include hm
theorem Q2t {f fu:FuncId} (hf:Q9 P f (L2r.c fu) L2r.r L2r.n) (hu:UniC P fu):Qti P f:=by
 intro c g r hc hg bg hr br
 have u1:=hu [] g RgV.nil hg RgB.nil bg
 rw[Qdk hg bg]at u1
 have u2:=hu g r hg hr bg br
 have hcl:Le (.a [c]) (rgV g):=by
  rcases hc with rfl | ⟨rfl,rfl⟩
  ·exact Le.refl _
  ·exact .inl (.inr ⟨_,_,rfl,rfl,Le0.nil 2,trivial⟩)
 have hn0:Le (.a [.nil]) (rgV []):=.inl (.inr ⟨_,_,rfl,rfl,Le0.nil 2,trivial⟩)
 have w1:CallIs P fu [.a [.nil],.a [c]] (rgV g):=CallIs.lel (show LeL Le [.a [.nil],.a [c]] [rgV [],rgV g] from ⟨hn0,hcl,trivial⟩) u1
 have hcc:c.cl 3=true/\c.cl 2=true/\c.isD=true:=by
  rcases hc with rfl | ⟨rfl,rfl⟩<;>exact⟨rfl,rfl,rfl⟩
 refine PureC.is (Q6 hm hf (qh rfl) ?_) (by rcases hc with rfl | ⟨rfl,rfl⟩<;>rfl)
 unfold L2r.c
 simp[go_sem]
 obtain⟨F,hF⟩:∃F:Nat->V,∀i,F i=if i=0 then .nil else if i=1 then rwL g else rwL (Km g r):=⟨_,λ_=>rfl⟩
 have F0:F 0=.nil:=by rw[hF];rfl
 have F1:F 1=rwL g:=by rw[hF];rfl
 have F2:F 2=rwL (Km g r):=by rw[hF];rfl
 refine Qc (α:=Nat) (λi=>i<=2)
  (λi=>⟨[(2,.p 0 1 0 0),(3,.p 1 1 0 0),(6,.l 1 [[c],[rwL r]]),(7,.i .i64 2),(8,.i .i64 i)],[.arr 1 1 [[.nil]],.arr 1 1 [[F i]]]⟩)
  (λi=>2-i) 0 (by omega) ?_ ?_
 ·simp[go_sem,F0]
 intro i hi
 rcases (show i=0∨i=1∨i=2 by omega) with rfl | rfl | rfl
 ·rw[F0]
  simp[go_sem]
  refine Q4 w1 ?_
  simp[go_sem,rgV,V.cells,V.okA]
  exact⟨1,by omega,by omega,rfl,by rw[F1];rfl,by rw[F1];rfl⟩
 ·rw[F1]
  simp[go_sem]
  refine Q4 u2 ?_
  simp[go_sem,rgV,V.cells,V.okA]
  exact⟨2,by omega,by omega,rfl,by rw[F2];rfl,by rw[F2];rfl⟩
 ·rw[F2]
  simp[go_sem,rwL,rgV,L2r.r]
end
theorem Qam (s:Sett) (n:Nat):∀x∈s.cs,x.cl n=true:=λx hx=>by
 simp only[Sett.cs,List.mem_cons,List.not_mem_nil,or_false]at hx
 rcases hx with rfl | rfl | rfl | rfl | rfl | rfl | rfl | rfl | rfl | rfl | rfl | rfl | rfl | rfl | rfl | rfl | rfl | rfl | rfl | rfl<;>rfl
theorem Qnu {k h:Int} {ms:List Mesh} {i:Nat} {m:Mesh} (hq:ms[i]?=some m) {acc:List (List Rw)}:Q77 k h acc (ms.drop i)=if (Jx m k h).2≠0 then ([],(Jx m k h).2) else Q77 k h (Q4k acc (Jx m k h).1) (ms.drop (i+1)):=by
 obtain⟨hlt,hq'⟩:=q8.1 hq
 rw[List.drop_eq_getElem_cons hlt,hq']
 rfl
section
variable {P:Program} (hm:P.follows .mixedOrders=true)
include hm
theorem Q2u {f fe fp fu:FuncId} (hf:Q9 P f (L2o.c fe fp fu) L2o.r L2o.n) (he:Q2n P fe) (hp:Qis P fp) (hu:Qti P fu):Qcs P f:=by
 intro ms s hml
 have e1:=he s.pitch 32 1024 (by omega)
 have e2:=he s.height 4 1024 (by omega)
 have hnil:∀e:Int,Le (.t [.nil,.i .i64 e]) (.t [Kd [],.i .i64 e]):=λe=>.inr ⟨_,_,rfl,rfl,.inl (Le0.nil 1),Le1.refl _,trivial⟩
 unfold Uo
 cases hv1:Za s.pitch 32 1024 with
 | false =>
   rw[hv1]at e1
   rw[if_pos (.inl rfl)]
   refine CallIs.res (r:=.t [.nil,.i .i64 1]) ?_ (hnil _)
   refine PureC.is (Q6 hm hf (qh rfl) ?_) rfl
   unfold L2o.c
   simp[go_sem,msV,Sett.enc,Sett.cs]
   refine Q4 e1 ?_
   simp[go_sem,L2o.r]
   done
 | true =>
 cases hv2:Za s.height 4 1024 with
 | false =>
   rw[hv1]at e1
   rw[hv2]at e2
   rw[if_pos (.inr rfl)]
   refine CallIs.res (r:=.t [.nil,.i .i64 1]) ?_ (hnil _)
   refine PureC.is (Q6 hm hf (qh rfl) ?_) rfl
   unfold L2o.c
   simp[go_sem,msV,Sett.enc,Sett.cs]
   refine Q4 e1 ?_
   simp[go_sem]
   refine Q4 e2 ?_
   simp[go_sem,L2o.r]
   done
 | true =>
 rw[hv1]at e1
 rw[hv2]at e2
 rw[if_neg (by simp)]
 obtain⟨R,hR⟩:∃R,R=Q77 s.pitch s.height [] ms:=⟨_,rfl⟩
 rw[<- hR]
 refine CallIs.res (r:=.t [if R.2≠0 then .nil else Kd R.1,.i .i64 R.2]) ?_ (by
  by_cases h1:R.2=0
  ·rw[if_neg (by simp[h1])]
   exact Le.refl _
  ·rw[if_pos h1]
   have h2:R.1=[]:=by rw[hR]at h1 ⊢;exact Qfz h1
   rw[h2]
   exact hnil _)
 refine PureC.is (Q6 hm hf (qh rfl) ?_) rfl
 unfold L2o.c
 simp[go_sem,msV,Sett.enc,Sett.cs]
 refine Q4 e1 ?_
 simp[go_sem]
 refine Q4 e2 ?_
 simp[go_sem]
 refine Qx [.t 6 1] (α:=Nat × Nat × List (List Rw)) (λp=>p.1<=ms.length/\Q77 s.pitch s.height p.2.2 (ms.drop p.1)=R/\Wr p.2.2/\p.2.2.length<=256)
  (λp=>⟨[(3,.p 0 1 0 0),(6,.own 1 (p.2.1+1) 0 p.2.2.length),(23,msV ms),(24,.i .i64 ms.length),(25,.i .i64 p.1)],[.arr 1 20 [s.cs],.arr (p.2.1+1) 1 (p.2.2.map rgE)]⟩)
  (λp=>ms.length-p.1) (0,0,[]) ⟨Nat.zero_le _,hR.symm,by simp[Wr],by simp⟩ ?_ ?_
 ·simp[go_sem,msV,Sett.cs]
 rintro⟨i,g,acc⟩ ⟨hi,hacc,hav,hal⟩
 simp only at hi hacc hav hal ⊢
 by_cases hil:i=ms.length
 ·subst hil
  rw[List.drop_length]at hacc
  have hR2:R=(acc,0):=hacc.symm
  have ht:List.take acc.length (acc.map rgE)=acc.map rgE:=qe (by simp)
  rw[hR2]
  simp (disch:=omega) [go_sem,msV,ht,Jb,L2o.r]
  rw[if_pos (Qjb acc)];rfl
 have hlt:i<ms.length:=by omega
 have hq:ms[i]?=some ms[i]:=q9 hlt
 rw[Qnu hq]at hacc
 have hpc:=hp ms[i] s
 have hpv:=partR_v ms[i] s.pitch s.height
 generalize ms[i]=m at *
 obtain⟨_,hq'⟩:=q8.1 hq
 generalize Jx m s.pitch s.height=T at *
 obtain⟨l,e⟩:=T
 simp only at hacc hpc hpv
 simp only[Mesh.enc,Mesh.cs,Sett.enc,Sett.cs]at hpc
 simp (disch:=omega) [go_sem,msV,hlt,hq,hq',Mesh.cs,Sett.cs,Q0]
 refine Q4 hpc ?_
 by_cases he0:e=0
 case neg =>
  have heb:(e != 0)=true:=by simpa using he0
  rw[if_pos he0]at hacc
  rw[<- hacc]
  simp (disch:=omega) [go_sem,he0,heb,L2o.r]
 subst he0
 rw[if_neg (by simp)]at hacc
 obtain⟨hlv,hll⟩:=hpv
 simp (disch:=omega) [go_sem,Jb,Q0]
 refine Qc (α:=Nat × Nat) (λp=>p.1<=l.length)
  (λp=>⟨[(3,.p 0 1 0 0),(6,.own 1 (p.2+1) 0 (El acc l p.1).length),(23,msV ms),(24,.i .i64 ms.length),(25,.i .i64 i),(38,Kd l),(39,.i .i64 l.length),(40,.i .i64 p.1)],[.arr 1 20 [s.cs],.arr (p.2+1) 1 ((El acc l p.1).map rgE)]⟩)
  (λp=>l.length-p.1) (0,g) (by simp) ?_ ?_
 ·simp[go_sem,msV,Qm5,Jb]
  exact⟨⟨rfl,Qam s 2⟩,Qaw _ _⟩
 rintro⟨j,g2⟩ hj
 simp only at hj ⊢
 have hml2:=Ks acc l j
 by_cases hjl:j=l.length
 ·subst hjl
  rw[Qq8 hav]
  have hul:=Q4j acc l
  simp (disch:=omega) [go_sem,Jb,Q0]
  exact⟨i+1,g2,Q4k acc l,⟨by omega,hacc,uniL_v _ _,by omega⟩,by omega,⟨⟨rfl,rfl⟩,rfl,by omega⟩,rfl,⟨rfl,rfl⟩,Qaw _ _⟩
 have hjt:j<l.length:=by omega
 have hu1:l[j]?=some l[j]:=q9 hjt
 have hrv:=hlv _ (qb hu1)
 have hatl:atR l j=l[j]:=by unfold atR;rw[hu1];rfl
 have hav2:=Qtb hav j
 have happ:=Qq7 (acc:=acc) (l:=l) (j:=j)
 have hset:=Qq6 (acc:=acc) (l:=l) (j:=j)
 have hget:=U1 (acc:=acc) (l:=l) (j:=j) (i:=j)
 rw[hatl]at happ hset
 generalize l[j]=r at *
 obtain⟨_,hu1'⟩:=q8.1 hu1
 have hMj:(El acc l j).length<=600:=by rw[hml2];omega
 generalize El acc l j=M at *
 have htk:List.take M.length (M.map rgE)=M.map rgE:=qe (by simp)
 by_cases hjm:acc.length<=j
 ·have hMl:M.length=j:=by omega
  have hM':=happ hjm
  have hat0:atR acc j=[]:=by unfold atR;rw[qk hjm];rfl
  rw[hat0]at hM' hav2
  have huc:=hu .nil [] r (.inr ⟨rfl,rfl⟩) RgV.nil RgB.nil hrv.1 hrv.2
  subst hMl
  simp (disch:=omega) [go_sem,Jb,hjt,hu1,hu1',rgE,htk,Xq,Ww,Q0]
  refine⟨⟨by omega,by omega⟩,?_,Qa6 (id:=4) (o:=.arr 1 1 [[.nil],[rwL r]]) (o':=.dead) rfl (λh2 hh=>Y8 (vs:=[.l 1 [[.nil],[rwL r]]]) (by simp[Y9,frz,X1,hh,rwL,V.isD]) huc ⟨rfl,rfl⟩) (.inr (by simp)) (by rfl) ?_⟩
  ·rfl
  simp (disch:=omega) [go_sem,rgV,V.cells,V.okA,Xq,Ww,Q0]
  exact⟨M.length+1,by omega,by omega,g2+1,⟨⟨rfl,by rw[hM'];simp⟩,.inr rfl,by omega⟩,Qam s 2,⟨rfl,by rw[hM'];simp[rgE,rwL]⟩,Qaw _ _⟩
 ·have hMl:M.length=acc.length:=by omega
  have hM':=hset (by omega)
  have hg:=hget (by omega)
  rw[if_neg (by omega)]at hg
  have huc:=hu (rwL (atR acc j)) (atR acc j) r (.inl rfl) hav2.1 hav2.2 hrv.1 hrv.2
  have hjn:((j:Int) == acc.length)=false:=by simp;omega
  have hjn2:¬ (j:Int)=acc.length:=by omega
  have hjt2:j<acc.length:=by omega
  have hjt3:j<M.length:=by omega
  obtain⟨_,hg'⟩:=q8.1 hg
  simp (disch:=omega) [go_sem,Jb,hjt,hu1,hu1',rgE,hMl,hjn,hjn2,hjt2,hjt3,hg,hg',Q0]
  refine⟨⟨rfl,rfl⟩,Qa6 (id:=3) (o:=.arr 1 1 [[rwL (atR acc j)],[rwL r]]) (o':=.dead) rfl (λh2 hh=>Y8 (vs:=[.l 1 [[rwL (atR acc j)],[rwL r]]]) (by simp[Y9,frz,X1,hh,rwL,V.isD]) huc ⟨rfl,rfl⟩) (.inr (by simp)) (by rfl) ?_⟩
  simp (disch:=omega) [go_sem,rgV,V.cells,V.okA,rgE,hMl,hjt2,hjt3,hg,hg',Q0]
  exact⟨j+1,by omega,by omega,g2,⟨⟨rfl,by rw[hM'];simp[hMl]⟩,.inr rfl,by omega⟩,Qam s 2,⟨rfl,by rw[hM',List.map_set];rfl⟩,λ_ _=>rfl⟩
end
def Qsi (m:Mesh):Bool:=decide (m.verts.length<=60) && decide (m.tris.length<=60)
def Qiy (P:Program) (f:FuncId):Prop:=∀m:Mesh,CallIs P f [m.enc] (.b (Qsi m))
section
variable {P:Program} (hm:P.follows .mixedOrders=true)
include hm
theorem Qbm {f:FuncId} (hf:Q9 P f L09.c L09.r L09.n):Qiy P f:=by
 intro m
 refine PureC.is (Q6 hm hf (qh rfl) ?_) rfl
 unfold L09.c Qsi
 by_cases h1:m.verts.length<=60
 ·by_cases h2:m.tris.length<=60
  ·simp[go_sem,Mesh.enc,Mesh.cs,vsV,tsV,h1,h2,show (m.verts.length:Int)<=60 by omega,show (m.tris.length:Int)<=60 by omega,L09.r]
  ·simp[go_sem,Mesh.enc,Mesh.cs,vsV,tsV,h1,h2,show (m.verts.length:Int)<=60 by omega,show ¬ (m.tris.length:Int)<=60 by omega,L09.r]
 ·simp[go_sem,Mesh.enc,Mesh.cs,vsV,tsV,h1,show ¬ (m.verts.length:Int)<=60 by omega,L09.r]
theorem StackSlice_ok {f ff fa fs fr fe:FuncId} (hf:Q9 P f (L08.c ff fa fs fr fe) L08.r L08.n) (hff:Qiy P ff) (ha:Qj2 P fa) (hs:B3 P fs) (hr:B3 P fr) (he:Qcu P fe) (m:Mesh) (z k:Int) :
  PureC P f [m.enc,.i .i64 z,.i .i64 k] (·=.b true):=by
 have c1:=hs m z k
 have c2:=hr m z k
 have c0:=hff m
 have hv:=Qe1 m z k
 have c3:=he _ _ hv.1 hv.1 hv.2 hv.2
 rw[decide_eq_true rfl]at c3
 refine Q6 hm hf (qh rfl) ?_
 unfold L08.c
 generalize Zd m z k=S at *
 obtain⟨g,e⟩:=S
 simp only[rgV]at c1 c2 c3
 simp[go_sem,Mesh.enc,Mesh.cs]
 refine Q4 c0 ?_
 cases Qsi m with
 | false =>
   simp[go_sem]
   refine Q4 ha ?_
   simp[go_sem,L08.r]
 | true =>
   simp[go_sem]
   refine Q4 c1 ?_
   simp[go_sem,V.cells,V.okA]
   refine Q4 c2 ?_
   simp[go_sem,V.cells,V.okA]
   refine Q4 c3 ?_
   simp[go_sem]
   refine Q4 ha ?_
   simp[go_sem,L08.r]
end
def Qhm (U:List Int) (x:Int):List Int:=if x∈U then U else U++[x]
def Qhn (U:List Int) (t:T3):List Int:=Qhm (Qhm (Qhm U t.a) t.b) t.c
def Kk (ts:List T3):List Int:=ts.foldl Qhn []
theorem Qgg (ts:List T3) (t:T3):Kk (ts++[t])=Qhn (Kk ts) t:=by simp[Kk]
theorem Qbq {U:List Int} (h:U.Nodup) (x:Int):(Qhm U x).Nodup/\(∀v,v∈Qhm U x↔v∈U∨v=x)/\(Qhm U x).length<=U.length+1:=by
 unfold Qhm
 split
 ·rename_i hx
  exact⟨h,λv=>⟨.inl,λhh=>hh.elim id (λe=>e ▸ hx)⟩,by omega⟩
 ·rename_i hx
  refine⟨?_,λv=>by simp,by simp⟩
  rw[List.nodup_append]
  exact⟨h,by simp,λa ha b hb=>by simp at hb;subst hb;rintro rfl;exact hx ha⟩
theorem insT_ok {U:List Int} (h:U.Nodup) (t:T3):(Qhn U t).Nodup/\(∀v,v∈Qhn U t↔v∈U∨v=t.a∨v=t.b∨v=t.c)/\(Qhn U t).length<=U.length+3:=by
 obtain⟨a1,a2,a3⟩:=Qbq h t.a
 obtain⟨b1,b2,b3⟩:=Qbq a1 t.b
 obtain⟨c1,c2,c3⟩:=Qbq b1 t.c
 refine⟨c1,λv=>?_,by unfold Qhn;omega⟩
 unfold Qhn
 rw[c2,b2,a2,or_assoc,or_assoc]
theorem Qoj (ts:List T3):(Kk ts).Nodup/\(∀v,v∈Kk ts↔∃t∈ts,v=t.a∨v=t.b∨v=t.c)/\(Kk ts).length<=3*ts.length:=by
 have key:∀k,k<=ts.length->(Kk (ts.take k)).Nodup/\(∀v,v∈Kk (ts.take k)↔∃t∈ts.take k,v=t.a∨v=t.b∨v=t.c)/\(Kk (ts.take k)).length<=3*k:=by
  intro k
  induction k with
  | zero=>intro _;simp[Kk]
  | succ k ih =>
    intro hk
    obtain⟨h1,h2,h3⟩:=ih (by omega)
    have hp:ts[k]?=some ts[k]:=q9 (by omega)
    rw[Qa hp,Qgg]
    obtain⟨i1,i2,i3⟩:=insT_ok h1 ts[k]
    refine⟨i1,λv=>?_,by omega⟩
    rw[i2,h2]
    constructor
    ·rintro (⟨t,ht,hv⟩ | hv)
     ·exact⟨t,qg.2 (.inl ht),hv⟩
     ·exact⟨ts[k],qg.2 (.inr (by simp)),hv⟩
    ·rintro⟨t,ht,hv⟩
     rcases qg.1 ht with h | h
     ·exact .inl ⟨t,h,hv⟩
     ·simp at h;subst h;exact .inr hv
 have:=key ts.length (Nat.le_refl _)
 rwa [qi]at this
def Mesh.euler (m:Mesh):Int:=if m.check=0 then ((Kk m.tris).length:Int)-m.edgesL.length+m.tris.length else 0
theorem Qef {l k:List Int} (hl:l.Nodup) (hk:k.Nodup) (h:∀v,v∈l↔v∈k):l.Perm k:=by
 rw[List.perm_iff_count]
 intro v
 have c:∀{l:List Int},l.Nodup->l.count v=if v∈l then 1 else 0:=λ{l} hl=>by
  by_cases he:v∈l
  ·rw[if_pos he]
   have h1:=List.count_pos_iff.2 he
   have h2:=List.nodup_iff_count.1 hl v
   omega
  ·rw[if_neg he];exact List.count_eq_zero.2 he
 rw[c hl,c hk]
 by_cases hv:v∈l
 ·rw[if_pos hv,if_pos ((h v).1 hv)]
 ·rw[if_neg hv,if_neg (λhh=>hv ((h v).2 hh))]
end Go.Abs
