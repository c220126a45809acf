/- Part of the library on which the proof stands: an abstract machine, its values and its soundness against the model; or what functions of the program do to such values. -/
import Derived.Test.YtcdjgldeiaiaoaaGreatGoOriC
import Derived.Test.YtcdjgldeiaiaoaaGreatGoRv
import Derived.Test.YtcdjgldeiaiaoaaGreatGoShpA
import Derived.Test.YtcdjgldeiaiaoaaGreatGoRp
set_option linter.unusedVariables false
set_option linter.unusedSimpArgs false
set_option maxHeartbeats 8000000
set_option maxRecDepth 20000
namespace Go.Abs
theorem Q1i {ts:List T3} {sh:List Int} {j:Nat} {v:Int} (h:sh[j]?=some v):Qj ts (sh.take (j+1))=Qj ts (sh.take j)++[tAt ts v.toNat]:=by
 unfold Qj;rw[Qg h,qx];rfl
theorem Kx (ts:List T3) (sh:List Int):(Qj ts sh).length=sh.length:=by simp[Qj]
section
variable {P:Program} (hm:P.follows .mixedOrders=true)
include hm
theorem B5 {f fc fl fh fcv fct fs fv fr:FuncId} (hf:Qc P f (L0f.c fc fl fh fcv fct fs fv fr) L0f.r L0f.n) (hc:Zp P fc) (hl:Q2j P fl) (hh:Qo1 P fh) (hcv:Yj P fcv 3) (hct:Yj P fct 3) (hs:Q00 P fs) (hv:Qdz P fv) (hr:Qfj P fr):Q56 P f:=by
 intro m
 by_cases hz:m.check=0
 case neg =>
  have hR:Zm m=(⟨[],[]⟩,0,m.check):=by unfold Zm;rw[if_pos hz]
  rw[hR]
  refine CallIs.res ?_ (Bf _)
  refine PureC.is (Q9 hm hf (qh rfl) ?_) rfl
  unfold L0f.c
  simp[go_sem,Mesh.enc,Mesh.cs]
  refine Q6 (hc m) ?_
  simp[go_sem,hz,L0f.r]
 have hl1:=hl m
 by_cases hcl:m.closed=false
 case pos =>
  have hR:Zm m=(⟨[],[]⟩,0,12):=by unfold Zm;rw[if_neg (by simpa using hz),if_pos hcl]
  rw[hR]
  rw[hcl]at hl1
  refine CallIs.res ?_ (Bf _)
  refine PureC.is (Q9 hm hf (qh rfl) ?_) rfl
  unfold L0f.c
  simp[go_sem,Mesh.enc,Mesh.cs]
  refine Q6 (hc m) ?_
  simp[go_sem,hz]
  refine Q6 hl1 ?_
  simp[go_sem,L0f.r]
 have hcl':m.closed=true:=by simpa using hcl
 obtain⟨z1,z2,z3,z4⟩:=Mesh.check_zero.1 hz
 have hh1:=hh m.tris (by omega)
 rw[hcl']at hl1
 by_cases hco:cohB m.tris=false
 case pos =>
  have hR:Zm m=(⟨[],[]⟩,0,13):=by unfold Zm;rw[if_neg (by simpa using hz),if_neg hcl,if_pos hco]
  rw[hR]
  rw[hco]at hh1
  refine CallIs.res ?_ (Bf _)
  refine PureC.is (Q9 hm hf (qh rfl) ?_) rfl
  unfold L0f.c
  simp[go_sem,Mesh.enc,Mesh.cs]
  refine Q6 (hc m) ?_
  simp[go_sem,hz]
  refine Q6 hl1 ?_
  simp[go_sem]
  refine Q6 hh1 ?_
  simp[go_sem,L0f.r]
 have hco':cohB m.tris=true:=by simpa using hco
 rw[hco']at hh1
 have hR:Zm m=(⟨m.verts,flp m.tris (Zz m.verts m.tris m.shells).flatten⟩,((Zz m.verts m.tris m.shells).length:Int),0):=by unfold Zm;rw[if_neg (by simpa using hz),if_neg hcl,if_neg hco];rfl
 rw[hR]
 have hok:=Jf hz
 have hs1:=hs m
 generalize m.shells=shs at *
 refine PureC.is (Q9 hm hf (qh rfl) ?_) rfl
 unfold L0f.c
 simp[go_sem,Mesh.enc,Mesh.cs,vsV,tsV]
 refine Q6 (hc m) ?_
 simp[go_sem,hz]
 refine Q6 hl1 ?_
 simp[go_sem]
 refine Q6 hh1 ?_
 simp[go_sem]
 refine Xv (hcv (m.verts.map V3.cs) (by simp[Yy]) (by simp;omega)) (by simp[V.cl,V.cl1,V.cl0]) ?_
 simp[go_sem]
 refine Xv (hct (m.tris.map T3.cs) (by simp[Y4]) (by simp;omega)) (by simp[V.cl,V.cl1,V.cl0]) ?_
 have hsv:∀(n:Nat) (a:V3),List.map (V.sh1 n) a.cs=a.cs:=λn a=>by simp[vcs,V.sh1,V.sh0]
 have hst:∀(n:Nat) (a:T3),List.map (V.sh1 n) a.cs=a.cs:=λn a=>by simp[tcs,V.sh1,V.sh0]
 simp[go_sem,hsv,hst]
 refine Q6 hs1 ?_
 simp[go_sem,lsV]
 refine Ql (α:=Nat) (λk=>k<=shs.length)
  (λk=>⟨[(1,.p 0 1 0 0),(2,.p 1 1 0 0),(6,.p 4 1 0 0),(7,.i .i64 (Zz m.verts m.tris (shs.take k)).length),(41,lsV shs),(42,.i .i64 shs.length),(43,.i .i64 k)],
   [.arr 1 2 [m.cs],.arr 1 2 [[.nil,.nil]],.arr 1 3 (m.verts.map V3.cs),.arr 1 3 ((flp m.tris (Zz m.verts m.tris (shs.take k)).flatten).map T3.cs),.arr 1 2 [[.own 2 1 0 m.verts.length,.own 3 1 0 m.tris.length]]]⟩)
  (λk=>shs.length-k) 0 (Nat.zero_le _) ?_ ?_
 ·simp[go_sem,lsV,Zz,Qf7,Mesh.cs,vsV,tsV,K5,Zg,hsv,hst]
 ·intro k hk
  by_cases hkl:k=shs.length
  ·subst hkl
   rw[qi]
   have hfl:=Zf m.tris (Zz m.verts m.tris shs).flatten
   generalize flp m.tris (Zz m.verts m.tris shs).flatten=T at *
   have htk:List.take m.tris.length (T.map T3.cs)=T.map T3.cs:=qe (by simp;omega)
   simp[go_sem,lsV,L0f.r,Q5u,Mesh.enc,Mesh.cs,vsV,tsV,Yy,Y4,htk,hfl]
  ·have hlt:k<shs.length:=by omega
   have hp:shs[k]?=some shs[k]:=q9 hlt
   have hmw:shs[k]∈shs:=List.getElem_mem _
   have htk:=Qg hp
   generalize shs[k]=sh at hp hmw htk
   obtain⟨_,hp'⟩:=q8.1 hp
   have hshl:=hok.len sh hmw
   have hshm:=hok.mem sh hmw
   have hnl:=Qcr m.verts m.tris (shs.take k)
   have hnl2:(shs.take k).length=k:=by rw[qw];omega
   have hnum:=hok.num
   have hsn:=Qa7 m.verts m.tris (shs.take k) sh
   rw[<- htk]at hsn
   generalize hN:Zz m.verts m.tris (shs.take k)=N at *
   have hfl:=Zf m.tris N.flatten
   simp[go_sem,lsV,hlt,hp,hp',Mesh.cs,vsV,tsV,isV]
   have hmcs:m.cs=[vsV m.verts,.l 3 (m.tris.map T3.cs)]:=rfl
   refine Y9 [.c 5 0 1 3] (α:=Nat) (λj=>j<=sh.length)
    (λj=>⟨[(1,.p 0 1 0 0),(2,.p 1 1 0 0),(6,.p 4 1 0 0),(7,.i .i64 N.length),(9,isV sh),(10,.p 5 1 0 0),(41,lsV shs),(42,.i .i64 shs.length),(43,.i .i64 k),(50,isV sh),(51,.i .i64 sh.length),(52,.i .i64 j)],
     [.arr 1 2 [m.cs],.arr 1 2 [[.nil,.nil]],.arr 1 3 (m.verts.map V3.cs),.arr 1 3 ((flp m.tris N.flatten).map T3.cs),.arr 1 2 [[.own 2 1 0 m.verts.length,.own 3 1 0 m.tris.length]],
      .arr 1 2 [[vsV m.verts,.own 6 (j+1) 0 j]],.arr (j+1) 3 ((Qj m.tris (sh.take j)).map T3.cs)]⟩)
    (λj=>sh.length-j) 0 (Nat.zero_le _) ?_ ?_
   ·simp[go_sem,lsV,isV,Qj,Mesh.cs,vsV,tsV,K5,Zg]
   ·intro j hj
    by_cases hjl:j=sh.length
    ·subst hjl
     rw[qi]
     have hpl:=Kx m.tris sh
     have hvol:=hv ⟨m.verts,Qj m.tris sh⟩
     have hve:(Mesh.mk m.verts (Qj m.tris sh)).vol6=Za m.verts (Qj m.tris sh):=by unfold Mesh.vol6;rw[if_pos (Ek hz hshl hshm)]
     rw[hve]at hvol
     generalize Qj m.tris sh=PT at *
     have htkp:List.take sh.length (PT.map T3.cs)=PT.map T3.cs:=qe (by simp;omega)
     simp[go_sem,lsV,isV]
     refine Kq (vs:=[(Mesh.mk m.verts PT).enc]) ?_ hvol ?_
     ·simp[go_sem,Yr,frz,Jc,Mesh.enc,Mesh.cs,vsV,tsV,Y4,htkp,hpl]
     ·by_cases hneg:Za m.verts PT<0
      ·rw[if_pos hneg]at hsn
       simp (disch:=omega) [go_sem,vsV,tsV,show ¬ (0<=Za m.verts PT) by omega,Q3]
       refine Ql (α:=Nat) (λj=>j<=sh.length)
        (λj=>⟨[(1,.p 0 1 0 0),(2,.p 1 1 0 0),(6,.p 4 1 0 0),(7,.i .i64 (N.length+1:Nat)),(41,lsV shs),(42,.i .i64 shs.length),(43,.i .i64 k),(72,isV sh),(73,.i .i64 sh.length),(74,.i .i64 j)],
         [.arr 1 2 [m.cs],.arr 1 2 [[.nil,.nil]],.arr 1 3 (m.verts.map V3.cs),.arr 1 3 ((flp m.tris (N.flatten++sh.take j)).map T3.cs),.arr 1 2 [[.own 2 1 0 m.verts.length,.own 3 1 0 m.tris.length]]]⟩)
        (λj=>sh.length-j) 0 (Nat.zero_le _) ?_ ?_
       ·simp[go_sem,lsV,isV,Mesh.cs,vsV,tsV,K5,Zg]
       ·intro j hj
        by_cases hjl:j=sh.length
        ·subst hjl
         rw[qi]
         simp (disch:=omega) [go_sem,lsV,isV,Q3]
         refine⟨k+1,by omega,by omega,?_⟩
         rw[hsn]
         simp[go_sem,Mesh.cs,vsV,tsV,K5,Zg]
        ·have hjlt:j<sh.length:=by omega
         have hq:sh[j]?=some sh[j]:=q9 hjlt
         have hqm:sh[j]∈sh:=List.getElem_mem _
         have htj:=Qg hq
         generalize sh[j]=v at hq hqm htj
         obtain⟨_,hq'⟩:=q8.1 hq
         obtain⟨v0,v1⟩:=hshm v hqm
         have v2:v.toNat<m.tris.length:=by omega
         have ht:=Qk v2
         have hset:=flp_set (ts:=m.tris) (F:=N.flatten++sh.take j) v2
         rw[Int.toNat_of_nonneg v0,j2,<- htj]at hset
         have hfl2:=Zf m.tris (N.flatten++sh.take j)
         generalize tAt m.tris v.toNat=t at ht hset
         obtain⟨_,ht'⟩:=q8.1 ht
         generalize hF:flp m.tris (N.flatten++sh.take j)=FT at *
         have hFi:v.toNat<FT.length:=by omega
         have hFg:FT[v.toNat]?=some FT[v.toNat]:=q9 hFi
         generalize FT[v.toNat]=t2 at hFg
         obtain⟨_,hFg'⟩:=q8.1 hFg
         have hr1:=hr t
         simp[go_sem,T3.enc,tcs]at hr1
         simp (disch:=omega) [go_sem,lsV,isV,Mesh.cs,vsV,tsV,hjlt,hq,hq',v0,v1,v2,ht,ht',hFi,hFg,hFg',tcs,Q3]
         refine Qp hr1 ?_
         simp (disch:=omega) [go_sem,lsV,isV,Mesh.cs,vsV,tsV,hjlt,hq,hq',v0,v1,v2,ht,ht',hFi,hFg,hFg',tcs,Q3]
         refine⟨j+1,by omega,by omega,?_⟩
         exact⟨by omega,by rw[<- hset,List.map_set];rfl⟩
      ·rw[if_neg hneg,List.append_nil]at hsn
       simp (disch:=omega) [go_sem,vsV,tsV,show 0<=Za m.verts PT by omega,Q3]
       refine⟨k+1,by omega,by omega,?_⟩
       rw[hsn]
       simp[go_sem,lsV,Mesh.cs,vsV,tsV,K5,Zg]
    ·have hjlt:j<sh.length:=by omega
     have hq:sh[j]?=some sh[j]:=q9 hjlt
     have hqm:sh[j]∈sh:=List.getElem_mem _
     have hpj:=λv (h:sh[j]?=some v)=>Q1i (ts:=m.tris) h
     generalize sh[j]=v at hq hqm
     have hpj:=hpj v hq
     obtain⟨_,hq'⟩:=q8.1 hq
     obtain⟨v0,v1⟩:=hshm v hqm
     have v2:v.toNat<m.tris.length:=by omega
     have ht:=Qk v2
     have hpl:=Kx m.tris (sh.take j)
     rw[qw,Nat.min_eq_left (by omega)]at hpl
     generalize tAt m.tris v.toNat=t at ht hpj
     obtain⟨_,ht'⟩:=q8.1 ht
     generalize hPT:Qj m.tris (sh.take j)=PT at *
     have htkp:List.take j (PT.map T3.cs)=PT.map T3.cs:=qe (by simp;omega)
     simp (disch:=omega) [go_sem,lsV,isV,Mesh.cs,vsV,tsV,hjlt,hq,hq',v0,v1,v2,ht,ht',tcs,htkp,hpl,Q3]
     refine⟨⟨by omega,by omega⟩,j+1,by omega,by omega,?_⟩
     rw[hpj]
     exact⟨by omega,rfl,by rw[qx];rfl⟩
end
def InvC (P:Program) (f:FuncId):Prop:=∀m:Mesh,m.check=0->CallIs P f [m.enc] (.b m.inv)
def ChkC (P:Program) (f:FuncId):Prop:=∀m:Mesh,CallIs P f [m.enc] (.i .i64 (K4 m))
def NoneTo {α:Type} (p:α->Bool) (l:List α) (k:Nat):Prop:=(l.take k).any p=false
theorem NoneTo.zero {α:Type} (p:α->Bool) (l:List α):NoneTo p l 0:=by simp[NoneTo]
theorem NoneTo.all {α:Type} {p:α->Bool} {l:List α} (h:NoneTo p l l.length):l.any p=false:=by unfold NoneTo at h;rwa [qi]at h
theorem Q9m {α:Type} (p:α->Bool) {l:List α} {k:Nat} {a:α} (h:l[k]?=some a) (hn:NoneTo p l k) (ha:p a=false):NoneTo p l (k+1):=by
 unfold NoneTo at *
 rw[Qg h,List.any_append,hn];simp[ha]
theorem Qfh {α:Type} (p:α->Bool) {l:List α} {k:Nat} {a:α} (h:l[k]?=some a) (ha:p a=true):l.any p=true :=
 List.any_eq_true.2 ⟨a,qb h,ha⟩
theorem degI_at {m:Mesh} (hz:m.check=0) {k:Nat} {t:T3} (h:m.tris[k]?=some t):m.degI (k:Int)=m.deg t:=by
 have hl:=(q8.1 h).1
 unfold Mesh.degI
 rw[if_pos ⟨by omega,by omega,hz⟩,Int.toNat_natCast,h]
theorem chkR_1 {m:Mesh} (h:m.check≠0):K4 m=m.check:=by unfold K4;rw[if_pos h]
theorem Qmo {m:Mesh} (h:m.check=0) (h2:m.closed=false):K4 m=12:=by unfold K4;rw[if_neg (by simpa using h),if_pos h2]
theorem chkR_3 {m:Mesh} (h:m.check=0) (h2:m.closed=true) (h3:cohB m.tris=false):K4 m=13:=by unfold K4;rw[if_neg (by simpa using h),if_neg (by rw[h2];simp),if_pos h3]
theorem chkR_4 {m:Mesh} (h:m.check=0) (h2:m.closed=true) (h3:cohB m.tris=true):K4 m=if m.tris.any m.deg=true then 1 else if m.inv=true then 1 else 0:=by
 unfold K4;rw[if_neg (by simpa using h),if_neg (by rw[h2];simp),if_neg (by rw[h3];simp)]
theorem Qmi {m:Mesh} (h:m.check=0):m.coh=cohB m.tris:=by unfold Mesh.coh;rw[h];simp
section
variable {P:Program} (hm:P.follows .mixedOrders=true)
include hm
theorem Ei {f fs fv:FuncId} (hf:Qc P f (L0x.c fs fv) L0x.r L0x.n) (hs:Q00 P fs) (hv:Qdz P fv):InvC P f:=by
 intro m hz
 obtain⟨z1,z2,z3,z4⟩:=Mesh.check_zero.1 hz
 have hok:=Jf hz
 have hs1:=hs m
 unfold Mesh.inv
 generalize m.shells=shs at *
 generalize hp:(λsh=>decide (Za m.verts (Qj m.tris sh)<0))=p
 generalize hB:shs.any p=B
 refine PureC.is (Q9 hm hf (qh rfl) ?_) rfl
 unfold L0x.c
 simp[go_sem,Mesh.enc,Mesh.cs,vsV,tsV]
 refine Q6 hs1 ?_
 simp[go_sem,lsV]
 have hsv:∀(n:Nat) (a:V3),List.map (V.sh1 n) a.cs=a.cs:=λn a=>by simp[vcs,V.sh1,V.sh0]
 have hst:∀(n:Nat) (a:T3),List.map (V.sh1 n) a.cs=a.cs:=λn a=>by simp[tcs,V.sh1,V.sh0]
 refine Ql (α:=Nat) (λk=>k<=shs.length/\NoneTo p shs k)
  (λk=>⟨[(1,.p 0 1 0 0),(9,lsV shs),(10,.i .i64 shs.length),(11,.i .i64 k)],
   [.arr 1 2 [m.cs]]⟩)
  (λk=>shs.length-k) 0 ⟨Nat.zero_le _,NoneTo.zero _ _⟩ ?_ ?_
 ·simp[go_sem,lsV,Mesh.cs,vsV,tsV,K5,Zg,hsv,hst]
 ·rintro k ⟨hk,hno⟩
  by_cases hkl:k=shs.length
  ·subst hkl
   obtain rfl:=hB.symm.trans hno.all
   simp[go_sem,lsV,L0x.r]
  ·have hlt:k<shs.length:=by omega
   have hnum:=hok.num
   have hq:shs[k]?=some shs[k]:=q9 hlt
   have hmw:shs[k]∈shs:=List.getElem_mem _
   generalize shs[k]=sh at hq hmw
   obtain⟨_,hq'⟩:=q8.1 hq
   have hshl:=hok.len sh hmw
   have hshm:=hok.mem sh hmw
   simp[go_sem,lsV,hlt,hq,hq',Mesh.cs,vsV,tsV,isV]
   refine Y9 [.c 1 0 1 3] (α:=Nat) (λj=>j<=sh.length)
    (λj=>⟨[(1,.p 0 1 0 0),(4,isV sh),(5,.p 1 1 0 0),(9,lsV shs),(10,.i .i64 shs.length),(11,.i .i64 k),(18,isV sh),(19,.i .i64 sh.length),(20,.i .i64 j)],
     [.arr 1 2 [m.cs],.arr 1 2 [[vsV m.verts,.own 2 (j+1) 0 j]],.arr (j+1) 3 ((Qj m.tris (sh.take j)).map T3.cs)]⟩)
    (λj=>sh.length-j) 0 (Nat.zero_le _) ?_ ?_
   ·simp[go_sem,lsV,isV,Qj,Mesh.cs,vsV,tsV,K5,Zg]
   ·intro j hj
    by_cases hjl:j=sh.length
    ·subst hjl
     rw[qi]
     have hpl:=Kx m.tris sh
     have hvol:=hv ⟨m.verts,Qj m.tris sh⟩
     have hve:(Mesh.mk m.verts (Qj m.tris sh)).vol6=Za m.verts (Qj m.tris sh):=by unfold Mesh.vol6;rw[if_pos (Ek hz hshl hshm)]
     rw[hve]at hvol
     have hps:p sh=decide (Za m.verts (Qj m.tris sh)<0):=by rw[<- hp]
     generalize Qj m.tris sh=PT at *
     have htkp:List.take sh.length (PT.map T3.cs)=PT.map T3.cs:=qe (by simp;omega)
     simp[go_sem,lsV,isV]
     refine Kq (vs:=[(Mesh.mk m.verts PT).enc]) ?_ hvol ?_
     ·simp[go_sem,Yr,frz,Jc,Mesh.enc,Mesh.cs,vsV,tsV,Y4,htkp,hpl]
     ·by_cases hneg:Za m.verts PT<0
      ·have ha:shs.any p=true:=Qfh p hq (by rw[hps];simpa using hneg)
       obtain rfl:=hB.symm.trans ha
       simp (disch:=omega) [go_sem,vsV,tsV,hneg,L0x.r]
      ·have ha:=Q9m p hq hno (by rw[hps];simpa using hneg)
       simp (disch:=omega) [go_sem,vsV,tsV,hneg,Q3]
       refine⟨k+1,⟨by omega,ha⟩,by omega,?_⟩
       simp (disch:=omega) [go_sem,lsV,Mesh.cs,vsV,tsV,K5,Zg,Q3]
    ·have hjlt:j<sh.length:=by omega
     have hq2:sh[j]?=some sh[j]:=q9 hjlt
     have hqm:sh[j]∈sh:=List.getElem_mem _
     have hpj:=λv (h:sh[j]?=some v)=>Q1i (ts:=m.tris) h
     generalize sh[j]=v at hq2 hqm
     have hpj:=hpj v hq2
     obtain⟨_,hq2'⟩:=q8.1 hq2
     obtain⟨v0,v1⟩:=hshm v hqm
     have v2:v.toNat<m.tris.length:=by omega
     have ht:=Qk v2
     have hpl:=Kx m.tris (sh.take j)
     rw[qw,Nat.min_eq_left (by omega)]at hpl
     generalize tAt m.tris v.toNat=t at ht hpj
     obtain⟨_,ht'⟩:=q8.1 ht
     generalize hPT:Qj m.tris (sh.take j)=PT at *
     have htkp:List.take j (PT.map T3.cs)=PT.map T3.cs:=qe (by simp;omega)
     simp (disch:=omega) [go_sem,lsV,isV,Mesh.cs,vsV,tsV,hjlt,hq2,hq2',v0,v1,v2,ht,ht',tcs,htkp,hpl,Q3]
     refine⟨⟨by omega,by omega⟩,j+1,by omega,by omega,?_⟩
     rw[hpj]
     exact⟨by omega,rfl,by rw[qx];rfl⟩
theorem Q1r {f fc fl fh fd fi:FuncId} (hf:Qc P f (L0v.c fc fl fh fd fi) L0v.r L0v.n) (hc:Zp P fc) (hl:Q2j P fl) (hh:Q1d P fh) (hd:DegC P fd) (hi:InvC P fi):ChkC P f:=by
 intro m
 have hl1:=hl m
 have hh1:=hh m
 by_cases hz:m.check=0
 case neg =>
  rw[chkR_1 hz]
  refine PureC.is (Q9 hm hf (qh rfl) ?_) rfl
  unfold L0v.c
  simp[go_sem,Mesh.enc,Mesh.cs]
  refine Q6 (hc m) ?_
  simp[go_sem,hz,L0v.r]
 obtain⟨z1,z2,z3,z4⟩:=Mesh.check_zero.1 hz
 rw[Qmi hz]at hh1
 by_cases hcl:m.closed=false
 case pos =>
  rw[Qmo hz hcl]
  rw[hcl]at hl1
  refine PureC.is (Q9 hm hf (qh rfl) ?_) rfl
  unfold L0v.c
  simp[go_sem,Mesh.enc,Mesh.cs]
  refine Q6 (hc m) ?_
  simp[go_sem,hz]
  refine Q6 hl1 ?_
  simp[go_sem,L0v.r]
 have hcl':m.closed=true:=by simpa using hcl
 rw[hcl']at hl1
 by_cases hco:cohB m.tris=false
 case pos =>
  rw[chkR_3 hz hcl' hco]
  rw[hco]at hh1
  refine PureC.is (Q9 hm hf (qh rfl) ?_) rfl
  unfold L0v.c
  simp[go_sem,Mesh.enc,Mesh.cs]
  refine Q6 (hc m) ?_
  simp[go_sem,hz]
  refine Q6 hl1 ?_
  simp[go_sem]
  refine Q6 hh1 ?_
  simp[go_sem,L0v.r]
 have hco':cohB m.tris=true:=by simpa using hco
 rw[hco']at hh1
 rw[chkR_4 hz hcl' hco']
 generalize hA:m.tris.any m.deg=A
 refine PureC.is (Q9 hm hf (qh rfl) ?_) rfl
 unfold L0v.c
 simp[go_sem,Mesh.enc,Mesh.cs,vsV,tsV]
 refine Q6 (hc m) ?_
 simp[go_sem,hz]
 refine Q6 hl1 ?_
 simp[go_sem]
 refine Q6 hh1 ?_
 have hsv:∀(n:Nat) (a:V3),List.map (V.sh1 n) a.cs=a.cs:=λn a=>by simp[vcs,V.sh1,V.sh0]
 have hst:∀(n:Nat) (a:T3),List.map (V.sh1 n) a.cs=a.cs:=λn a=>by simp[tcs,V.sh1,V.sh0]
 simp[go_sem]
 refine Ql (α:=Nat) (λk=>k<=m.tris.length/\NoneTo m.deg m.tris k)
  (λk=>⟨[(1,.p 0 1 0 0),(18,.i .i64 m.tris.length),(19,.i .i64 k)],[.arr 1 2 [m.cs]]⟩)
  (λk=>m.tris.length-k) 0 ⟨Nat.zero_le _,NoneTo.zero _ _⟩ ?_ ?_
 ·simp[go_sem,Mesh.cs,vsV,tsV,K5,Zg,hsv,hst]
 ·rintro k ⟨hk,hno⟩
  by_cases hkl:k=m.tris.length
  ·subst hkl
   obtain rfl:=hA.symm.trans hno.all
   have hi1:=hi m hz
   simp[go_sem,Mesh.cs,vsV,tsV]
   refine Q6 hi1 ?_
   cases hin:m.inv<;>simp[go_sem,L0v.r]
  ·have hlt:k<m.tris.length:=by omega
   have hq:=Qk hlt
   have hdk:=hd m (k:Int)
   rw[degI_at hz hq]at hdk
   simp[go_sem,hlt,Mesh.cs,vsV,tsV]
   refine Q6 hdk ?_
   cases hdg:m.deg (tAt m.tris k) with
   | true =>
     have ha:m.tris.any m.deg=true:=Qfh _ hq hdg
     obtain rfl:=hA.symm.trans ha
     simp[go_sem,L0v.r]
   | false =>
     have ha:=Q9m _ hq hno hdg
     simp (disch:=omega) [go_sem,Q3]
     refine⟨k+1,⟨by omega,ha⟩,by omega,?_⟩
     simp[go_sem,Mesh.cs,vsV,tsV,K5,Zg]
end
def Rep.cs (r:Rep):List V:=[.i .i64 r.me,.i .i64 r.de,.i .i64 r.du,.i .i64 r.fl,.i .i64 r.ho,.i .i64 r.iv,.i .i64 r.sh]
def J8 (m:Mesh) (r:Rep):O:=.arr 1 9 [m.cs++r.cs]
def Q1c (P:Program) (f:FuncId) (ok:Mesh->Rep->Prop) (g:Mesh->Rep->Mesh × Rep × Int):Prop:=∀(h:List O) (id:Nat) (m:Mesh) (r:Rep),ok m r->h[id]?=some (J8 m r) ->
 ACall P f [.p id 1 0 0] h (λr' h'=>r'=.i .i64 (g m r).2.2/\h'=h.set id (J8 (g m r).1 (g m r).2.1))
theorem Yw {h l:List O} {id:Nat} (hid:id<h.length):(h++l)[id]?=h[id]?:=qd hid
theorem Yv {h l:List O} {id:Nat} (hid:id<h.length) (o:O):(h++l).set id o=h.set id o++l:=List.set_append_left _ _ hid
theorem Ko (h l:List O) (id:Nat) (o:O):(h.set id o++l)[h.length]?=l[0]?:=by
 have:=Qd (h.set id o) l
 rwa [List.length_set]at this
theorem Kn (h l:List O) (id:Nat) (o o':O):(h.set id o++l).set h.length o'=h.set id o++l.set 0 o':=by
 have:=Qn (h.set id o) l o'
 rwa [List.length_set]at this
theorem Qf2 (m:Mesh) (r:Rep) (n:Nat):(J8 m r).cl n:=by
 simp[J8,O.cl,Mesh.cs,Rep.cs,vsV,tsV,V.cl,V.cl1,V.cl0,vcs,tcs]
theorem Wz {h:List O} {id:Nat} {m m':Mesh} {r r':Rep} {l:List O} {e:Int} (hcl:∀n,h.length<=n->∀o∈h,o.cl n) :
  WeakH (h.set id (J8 m r)).length (h.set id (J8 m r)++l) (h.set id (J8 m r)):=by
 have:=Z0 (n:=(h.set id (J8 m r)).length) (a:=l) (b:=[]) (h:=h.set id (J8 m r)) (λo ho=>by
  rcases List.mem_or_eq_of_mem_set ho with ho | rfl
  ·exact hcl _ (by rw[List.length_set];exact Nat.le_refl _) o ho
  ·exact Qf2 _ _ _) (by cases l<;>trivial)
 rwa [List.append_nil]at this
theorem Q64 (m:Mesh):0<=(Qb m).2.1/\(Qb m).2.1<=4096:=by
 unfold Qb
 by_cases h:m.check=0
 ·rw[if_pos h]
  have h1:=Ea h
  have h2:=(Mesh.check_zero.1 h).1
  simp only[];omega
 ·rw[if_neg h];simp
section
variable {P:Program} (hm:P.follows .mixedOrders=true)
include hm
theorem Ws {f fo:FuncId} (hf:Qc P f (L11.c fo) L11.r L11.n) (ho:Q96 P fo) :
  Q1c P f (λ_ _=>True) (λm r=>((Zr m).1,{ r with fl:=(Zr m).2.1 },(Zr m).2.2)):=by
 intro h id m r _ hid
 refine Ym λhcl=>?_
 obtain⟨hlt,hid'⟩:=q8.1 hid
 refine X3 hm hf (qh rfl) ?_
 unfold L11.c
 generalize hK:Q01 h.length L11.r _=K
 have ho1:=ho m
 have hjd:=λm' r' l=>Wz (id:=id) (m:=m') (r:=r') (m':=m') (r':=r') (e:=0) (l:=l) hcl
 generalize hq:Zr m=q at ho1
 obtain⟨a,b,c⟩:=q
 simp only[J8,Mesh.cs,Rep.cs]at hid hid' hjd
 simp[go_sem,hid,hid',hlt,Qa,Qd,Qq,Qn,Yw hlt,Yv hlt]
 refine Q6 ho1 ?_
 simp[go_sem,Q5u,Mesh.enc,Mesh.cs,hid,hid',hlt,Qa,Qd,Qq,Qn,Yw hlt,Yv hlt,Ko,Kn]
 rw[<- hK,Wb]
 refine⟨[.i .i64 c],h.set id (J8 a { r with fl:=b }),?_,rfl,?_,?_,?_,hjd a { r with fl:=b } _,by simp[hq,Yg],by simp[hq]⟩
 ·simp[L11.r,Yc,go_sem]
 ·simp[V.cl,V.cl1,V.cl0]
 ·simp
 ·simp
theorem Eh {f fo:FuncId} (hf:Qc P f (L10.c fo) L10.r L10.n) (ho:Qny P fo) :
  Q1c P f (λ_ _=>True) (λm r=>((Qt m).1,{ r with ho:=(Qt m).2.1 },(Qt m).2.2)):=by
 intro h id m r _ hid
 refine Ym λhcl=>?_
 obtain⟨hlt,hid'⟩:=q8.1 hid
 refine X3 hm hf (qh rfl) ?_
 unfold L10.c
 generalize hK:Q01 h.length L10.r _=K
 have ho1:=ho m
 have hjd:=λm' r' l=>Wz (id:=id) (m:=m') (r:=r') (m':=m') (r':=r') (e:=0) (l:=l) hcl
 generalize hq:Qt m=q at ho1
 obtain⟨a,b,c⟩:=q
 simp only[J8,Mesh.cs,Rep.cs]at hid hid' hjd
 simp[go_sem,hid,hid',hlt,Qa,Qd,Qq,Qn,Yw hlt,Yv hlt]
 refine Q6 ho1 ?_
 simp[go_sem,Bq,Mesh.enc,Mesh.cs,hid,hid',hlt,Qa,Qd,Qq,Qn,Yw hlt,Yv hlt,Ko,Kn]
 rw[<- hK,Wb]
 refine⟨[.i .i64 c],h.set id (J8 a { r with ho:=b }),?_,rfl,?_,?_,?_,hjd a { r with ho:=b } _,by simp[hq,Yg],by simp[hq]⟩
 ·simp[L10.r,Yc,go_sem]
 ·simp[V.cl,V.cl1,V.cl0]
 ·simp
 ·simp
theorem Wj {f fo:FuncId} (hf:Qc P f (L12.c fo) L12.r L12.n) (ho:Q56 P fo) :
  Q1c P f (λ_ _=>True) (λm r=>((Zm m).1,{ r with iv:=(Zm m).2.1 },(Zm m).2.2)):=by
 intro h id m r _ hid
 refine Ym λhcl=>?_
 obtain⟨hlt,hid'⟩:=q8.1 hid
 refine X3 hm hf (qh rfl) ?_
 unfold L12.c
 generalize hK:Q01 h.length L12.r _=K
 have ho1:=ho m
 have hjd:=λm' r' l=>Wz (id:=id) (m:=m') (r:=r') (m':=m') (r':=r') (e:=0) (l:=l) hcl
 generalize hq:Zm m=q at ho1
 obtain⟨a,b,c⟩:=q
 simp only[J8,Mesh.cs,Rep.cs]at hid hid' hjd
 simp[go_sem,hid,hid',hlt,Qa,Qd,Qq,Qn,Yw hlt,Yv hlt]
 refine Q6 ho1 ?_
 simp[go_sem,Q5u,Mesh.enc,Mesh.cs,hid,hid',hlt,Qa,Qd,Qq,Qn,Yw hlt,Yv hlt,Ko,Kn]
 rw[<- hK,Wb]
 refine⟨[.i .i64 c],h.set id (J8 a { r with iv:=b }),?_,rfl,?_,?_,?_,hjd a { r with iv:=b } _,by simp[hq,Yg],by simp[hq]⟩
 ·simp[L12.r,Yc,go_sem]
 ·simp[V.cl,V.cl1,V.cl0]
 ·simp
 ·simp
theorem Uw {f fo:FuncId} (hf:Qc P f (L0z.c fo) L0z.r L0z.n) (ho:Qee P fo) :
  Q1c P f (λ_ _=>True) (λm r=>((Qe m).1,{ r with de:=(Qe m).2.1,du:=(Qe m).2.2.1 },(Qe m).2.2.2)):=by
 intro h id m r _ hid
 refine Ym λhcl=>?_
 obtain⟨hlt,hid'⟩:=q8.1 hid
 refine X3 hm hf (qh rfl) ?_
 unfold L0z.c
 generalize hK:Q01 h.length L0z.r _=K
 have ho1:=ho m
 have hjd:=λm' r' l=>Wz (id:=id) (m:=m') (r:=r') (m':=m') (r':=r') (e:=0) (l:=l) hcl
 generalize hq:Qe m=q at ho1
 obtain⟨a,b,b2,c⟩:=q
 simp only[J8,Mesh.cs,Rep.cs]at hid hid' hjd
 simp[go_sem,hid,hid',hlt,Qa,Qd,Qq,Qn,Yw hlt,Yv hlt]
 refine Q6 ho1 ?_
 simp[go_sem,Q8v,Mesh.enc,Mesh.cs,hid,hid',hlt,Qa,Qd,Qq,Qn,Yw hlt,Yv hlt,Ko,Kn]
 rw[<- hK,Wb]
 refine⟨[.i .i64 c],h.set id (J8 a { r with de:=b,du:=b2 }),?_,rfl,?_,?_,?_,hjd a { r with de:=b,du:=b2 } _,by simp[hq,Yg],by simp[hq]⟩
 ·simp[L0z.r,Yc,go_sem]
 ·simp[V.cl,V.cl1,V.cl0]
 ·simp
 ·simp
theorem Eg {f fo:FuncId} (hf:Qc P f (L13.c fo) L13.r L13.n) (ho:Qmw P fo) :
  Q1c P f (λ_ r=>0<=r.me/\r.me<=1000000) (λm r=>((Qb m).1,{ r with me:=r.me+(Qb m).2.1 },(Qb m).2.2)):=by
 intro h id m r hok hid
 refine Ym λhcl=>?_
 obtain⟨hlt,hid'⟩:=q8.1 hid
 refine X3 hm hf (qh rfl) ?_
 unfold L13.c
 generalize hK:Q01 h.length L13.r _=K
 have ho1:=ho m
 have hjd:=λm' r' l=>Wz (id:=id) (m:=m') (r:=r') (m':=m') (r':=r') (e:=0) (l:=l) hcl
 have hbd:=Q64 m
 generalize hq:Qb m=q at ho1 hbd
 obtain⟨a,b,c⟩:=q
 have hw64:IntKind.i64.wrap (r.me+b)=r.me+b:=Q3 (by simp only[]at hbd;omega) (by simp only[]at hbd;omega)
 simp only[J8,Mesh.cs,Rep.cs]at hid hid' hjd
 simp[go_sem,hid,hid',hlt,Qa,Qd,Qq,Qn,Yw hlt,Yv hlt]
 refine Q6 ho1 ?_
 simp[go_sem,Qei,hw64,Mesh.enc,Mesh.cs,hid,hid',hlt,Qa,Qd,Qq,Qn,Yw hlt,Yv hlt,Ko,Kn]
 rw[<- hK,Wb]
 refine⟨[.i .i64 c],h.set id (J8 a { r with me:=r.me+b }),?_,rfl,?_,?_,?_,hjd a { r with me:=r.me+b } _,by simp[hq,Yg],by simp[hq]⟩
 ·simp[L13.r,Yc,go_sem]
 ·simp[V.cl,V.cl1,V.cl0]
 ·simp
 ·simp
theorem Ux {f fs fc:FuncId} (hf:Qc P f (L0y.c fs fc) L0y.r L0y.n) (hs:Q00 P fs) (hc:ChkC P fc) :
  Q1c P f (λ_ _=>True) (λm r=>(m,{ r with sh:=(m.shells.length:Int) },K4 m)):=by
 intro h id m r _ hid
 obtain⟨hlt,hid'⟩:=q8.1 hid
 refine Q15 hm hf (qh rfl) ?_
 unfold L0y.c
 have hs1:=hs m
 have hc1:=hc m
 simp only[J8,Mesh.cs,Rep.cs]at hid hid'
 simp[go_sem,hid,hid',hlt]
 refine Q6 hs1 ?_
 simp[go_sem,lsV,hid,hid',hlt]
 refine Q6 hc1 ?_
 simp[go_sem,L0y.r,J8,Mesh.cs,Rep.cs]
end
def Q7h (p:Mesh × Rep × Int):V:=.t [p.1.enc,.a p.2.1.cs,.i .i64 p.2.2]
def RepC (P:Program) (f:FuncId):Prop:=∀m:Mesh,CallIs P f [m.enc] (Q7h (Y2 m))
theorem repV_no (e:Int):Le (.t [.a [.nil,.nil],.a Rep.zero.cs,.i .i64 e]) (Q7h (noMesh,Rep.zero,e)) :=
 .inr ⟨_,_,rfl,rfl,.inr ⟨_,_,rfl,rfl,Le0.nil 3,Le0.nil 3,trivial⟩,Le1.refl _,Le1.refl _,trivial⟩
end Go.Abs
