/- Part of the library on which the proof stands: an abstract machine, its values and its soundness against the model; or what functions of the program do to such values. -/
import Derived.Test.YtcdjgldeiaiaoaaGreatGoOriD
import Derived.Test.YtcdjgldeiaiaoaaGreatGoSch
import Derived.Test.YtcdjgldeiaiaoaaGreatGoOu
import Derived.Test.YtcdjgldeiaiaoaaGreatGoRevC
set_option linter.unusedVariables false
set_option linter.unusedSimpArgs false
set_option maxHeartbeats 8000000
set_option maxRecDepth 20000
namespace Go.Abs
def Xl (P:Program) (f:FuncId):Prop:=∀v:V3,CallIs P f [v.enc] (.b (v.within 131072))
def Q11 (P:Program) (f:FuncId):Prop:=∀b c:V3,b.valid=true->c.valid=true->CallIs P f [b.enc,c.enc] (crs b c).enc
def Qdo (P:Program) (f:FuncId):Prop:=∀a b:V3,a.valid=true->b.within 8589934592=true->CallIs P f [a.enc,b.enc] (.i .i64 (Qbn a b))
theorem Zw {v:V3} (h:v.valid=true):v.within 131072=true:=by
 have:=V3.valid_iff.1 h
 simp[V3.within];omega
theorem Q7l {v:V3} {a b:Int} (hab:a<=b) (h:v.within a=true):v.within b=true:=by
 simp[V3.within]at h ⊢;omega
theorem Q37 {b c:V3} (hb:b.valid=true) (hc:c.valid=true):(crs b c).within 8589934592=true:=by
 have:=crs_b hb hc
 simp[V3.within];omega
section
variable {P:Program} (hm:P.follows .mixedOrders=true)
include hm
theorem Ek {f fw:FuncId} (hf:Qb P f (L1p.c fw) L1p.r L1p.n) (hw:X7 P fw):Xl P f:=by
 intro v
 refine PureC.is (Q9 hm hf (qh rfl) ?_) rfl
 unfold L1p.c
 simp[go_sem,V3.enc,V3.cs]
 refine Q6 ((hw v 131072 (by omega) (by omega)).is rfl) ?_
 simp[go_sem,L1p.r]
theorem El {f fs:FuncId} (hf:Qb P f (L1j.c fs) L1j.r L1j.n) (hs:Xl P fs):Q11 P f:=by
 intro b c hb hc
 refine PureC.is (Q9 hm hf (qh rfl) ?_) rfl
 unfold L1j.c
 have h1:=hs b
 have h2:=hs c
 rw[Zw hb]at h1
 rw[Zw hc]at h2
 obtain⟨b1,b2,b3,b4,b5,b6⟩:=V3.valid_iff.1 hb
 obtain⟨c1,c2,c3,c4,c5,c6⟩:=V3.valid_iff.1 hc
 have m1:=Kt b3 b4 c5 c6
 have m2:=Kt b5 b6 c3 c4
 have m3:=Kt b5 b6 c1 c2
 have m4:=Kt b1 b2 c5 c6
 have m5:=Kt b1 b2 c3 c4
 have m6:=Kt b3 b4 c1 c2
 have hcr:crs b c=⟨b.y*c.z-b.z*c.y,b.z*c.x-b.x*c.z,b.x*c.y-b.y*c.x⟩:=rfl
 rw[hcr]
 simp[go_sem,V3.enc,V3.cs]at h1 h2 ⊢
 refine Q6 h1 ?_
 simp[go_sem]
 refine Q6 h2 ?_
 simp (disch:=omega) [go_sem,Q3,L1j.r]
theorem Q1a {f fs fw:FuncId} (hf:Qb P f (L1l.c fs fw) L1l.r L1l.n) (hs:Xl P fs) (hw:X7 P fw):Qdo P f:=by
 intro a b ha hb
 refine PureC.is (Q9 hm hf (qh rfl) ?_) rfl
 unfold L1l.c
 have h1:=hs a
 have h2:=(hw b 1099511627776 (by omega) (by omega)).is rfl
 rw[Zw ha]at h1
 rw[Q7l (by omega) hb]at h2
 obtain⟨b1,b2,b3,b4,b5,b6⟩:=V3.valid_iff.1 ha
 simp only[V3.within,Bool.and_eq_true,decide_eq_true_eq]at hb
 obtain⟨⟨⟨⟨⟨c1,c2⟩,c3⟩,c4⟩,c5⟩,c6⟩:=hb
 have m1:=Qax b1 b2 c1 c2
 have m2:=Qax b3 b4 c3 c4
 have m3:=Qax b5 b6 c5 c6
 have hd:Qbn a b=a.x*b.x+a.y*b.y+a.z*b.z:=rfl
 rw[hd]
 simp[go_sem,V3.enc,V3.cs]at h1 h2 ⊢
 refine Q6 h1 ?_
 simp[go_sem]
 refine Q6 h2 ?_
 simp (disch:=omega) [go_sem,Q3,L1l.r]
theorem Qa2 {f fs fc fd:FuncId} (hf:Qb P f (L1k.c fs fc fd) L1k.r L1k.n) (hs:Xl P fs) (hc:Q11 P fc) (hd:Qdo P fd):Qgl P f:=by
 intro x y z hx hy hz
 refine PureC.is (Q9 hm hf (qh rfl) ?_) rfl
 unfold L1k.c
 have h1:=hs y
 have h2:=hs z
 rw[Zw hy]at h1
 rw[Zw hz]at h2
 simp[go_sem,V3.enc,V3.cs]at h1 h2 ⊢
 refine Q6 h1 ?_
 simp[go_sem]
 refine Q6 h2 ?_
 simp[go_sem]
 refine Qp (hc y z hy hz) ?_
 simp[go_sem]
 refine Qp (hd x (crs y z) hx (Q37 hy hz)) ?_
 simp[go_sem,L1k.r,Ee]
theorem Ku {f fc fd:FuncId} (hf:Qb P f (L0a.c fc fd) L0a.r L0a.n) (hc:Y3 P fc) (hd:Qgl P fd):Qc0 P f:=by
 intro m
 refine PureC.is (Q9 hm hf (qh rfl) ?_) rfl
 unfold L0a.c
 have hv:m.vol6=if m.check=0 then Zk m.verts m.tris else 0:=rfl
 by_cases hz:m.check=0
 case neg =>
  rw[hv,if_neg hz]
  simp[go_sem,Mesh.enc,Mesh.cs]
  refine Q6 (hc m) ?_
  simp[go_sem,hz,L0a.r]
 rw[hv,if_pos hz]
 obtain⟨z1,z2,z3,z4⟩:=Mesh.check_zero.1 hz
 simp[go_sem,Mesh.enc,Mesh.cs]
 refine Q6 (hc m) ?_
 simp[go_sem,hz,vsV,tsV]
 refine Ql (α:=Nat) (λk=>k<=m.tris.length)
  (λk=>⟨[(1,.p 0 1 0 0),(3,.i .i64 (Zk m.verts (m.tris.take k))),(10,tsV m.tris),(11,.i .i64 m.tris.length),(12,.i .i64 k)],[.arr 1 2 [m.cs]]⟩)
  (λk=>m.tris.length-k) 0 (Nat.zero_le _) ?_ ?_
 ·simp[go_sem,Mesh.cs,vsV,tsV,Ej]
 ·intro k hk
  by_cases hkl:k=m.tris.length
  ·subst hkl
   rw[qi]
   simp[go_sem,Mesh.cs,vsV,tsV,L0a.r]
  ·have hlt:k<m.tris.length:=by omega
   have hp:m.tris[k]?=some m.tris[k]:=q9 hlt
   generalize m.tris[k]=t at hp
   obtain⟨_,hp'⟩:=q8.1 hp
   have hok:=Q1e z4 hp
   obtain⟨a1,a2,b1,b2,c1,c2⟩:=T3.ok_iff.1 hok
   have ga:=Q0u a1 a2
   have gb:=Q0u b1 b2
   have gc:=Q0u c1 c2
   have va:=Xy z3 a1 a2
   have vb:=Xy z3 b1 b2
   have vc:=Xy z3 c1 c2
   have hb1:=Qgu z3 (ts:=m.tris.take k) (by
    simp only[Kw,qj]at z4 ⊢
    exact λx hx=>z4 x (jg hx))
   have hb2:=Qgt z3 hok
   have hln:((m.tris.take k).length:Int)<=4096:=by rw[qw];omega
   have hs:Zk m.verts (m.tris.take (k+1))=Zk m.verts (m.tris.take k)+Ei m.verts t:=by
    rw[List.take_add_one,hp,Qgv,Option.toList_some,Zj,Ej];omega
   have hvt:Ei m.verts t=Ee (vAt m.verts t.a) (vAt m.verts t.b) (vAt m.verts t.c):=rfl
   have hdd:=hd _ _ _ va vb vc
   rw[<- hvt]at hdd
   clear hvt
   generalize vAt m.verts t.a=A at *
   generalize vAt m.verts t.b=B at *
   generalize vAt m.verts t.c=C at *
   generalize Zk m.verts (m.tris.take k)=S at *
   generalize Ei m.verts t=T at *
   obtain⟨ia,ga'⟩:=q8.1 ga
   obtain⟨ib,gb'⟩:=q8.1 gb
   obtain⟨ic,gc'⟩:=q8.1 gc
   simp[go_sem,Mesh.cs,vsV,tsV,hlt,hp,hp',tcs,a1,b1,c1,ga,gb,gc,ia,ib,ic,ga',gb',gc',vcs]
   simp[go_sem,V3.enc,vcs]at hdd
   refine Qp hdd ?_
   simp (disch:=omega) [go_sem,Q3]
   refine⟨k+1,by omega,by omega,?_⟩
   exact⟨hs.symm,by omega⟩
end
def Qdl (P:Program) (f:FuncId):Prop:=∀t:T3,CallIs P f [t.enc] t.rev.enc
section
variable {P:Program} (hm:P.follows .mixedOrders=true)
include hm
theorem Ur {f:FuncId} (hf:Qb P f L0i.c L0i.r L0i.n):Qdl P f:=by
 intro t
 refine PureC.is (Q9 hm hf (qh rfl) ?_) rfl
 unfold L0i.c
 simp[go_sem,T3.enc,T3.cs,T3.rev,L0i.r]
end
theorem Q04 {ts:List T3} {sh:List Int} {j:Nat} {v:Int} (h:sh[j]?=some v):Qo ts (sh.take (j+1))=Qo ts (sh.take j)++[tAt ts v.toNat]:=by
 unfold Qo;rw[Qj h,qx];rfl
theorem Kc (ts:List T3) (sh:List Int):(Qo ts sh).length=sh.length:=by simp[Qo]
section
variable {P:Program} (hm:P.follows .mixedOrders=true)
include hm
theorem Ew {f fc fl fh fcv fct fs fv fr:FuncId} (hf:Qb P f (L0e.c fc fl fh fcv fct fs fv fr) L0e.r L0e.n) (hc:Y3 P fc) (hl:Q12 P fl) (hh:Qlj P fh) (hcv:Xt P fcv 3) (hct:Xt P fct 3) (hs:Iq P fs) (hv:Qc0 P fv) (hr:Qdl P fr):Q3g P f:=by
 intro m
 by_cases hz:m.check=0
 case neg =>
  have hR:Zz m=(⟨[],[]⟩,0,m.check):=by unfold Zz;rw[if_pos hz]
  rw[hR]
  refine CallIs.res ?_ (I4 _)
  refine PureC.is (Q9 hm hf (qh rfl) ?_) rfl
  unfold L0e.c
  simp[go_sem,Mesh.enc,Mesh.cs]
  refine Q6 (hc m) ?_
  simp[go_sem,hz,L0e.r]
 have hl1:=hl m
 by_cases hcl:m.closed=false
 case pos =>
  have hR:Zz m=(⟨[],[]⟩,0,12):=by unfold Zz;rw[if_neg (by simpa using hz),if_pos hcl]
  rw[hR]
  rw[hcl]at hl1
  refine CallIs.res ?_ (I4 _)
  refine PureC.is (Q9 hm hf (qh rfl) ?_) rfl
  unfold L0e.c
  simp[go_sem,Mesh.enc,Mesh.cs]
  refine Q6 (hc m) ?_
  simp[go_sem,hz]
  refine Q6 hl1 ?_
  simp[go_sem,L0e.r]
 have hcl':m.closed=true:=by simpa using hcl
 obtain⟨z1,z2,z3,z4⟩:=Mesh.check_zero.1 hz
 have hh1:=hh m.tris (by omega)
 rw[hcl']at hl1
 by_cases hco:Xw m.tris=false
 case pos =>
  have hR:Zz m=(⟨[],[]⟩,0,13):=by unfold Zz;rw[if_neg (by simpa using hz),if_neg hcl,if_pos hco]
  rw[hR]
  rw[hco]at hh1
  refine CallIs.res ?_ (I4 _)
  refine PureC.is (Q9 hm hf (qh rfl) ?_) rfl
  unfold L0e.c
  simp[go_sem,Mesh.enc,Mesh.cs]
  refine Q6 (hc m) ?_
  simp[go_sem,hz]
  refine Q6 hl1 ?_
  simp[go_sem]
  refine Q6 hh1 ?_
  simp[go_sem,L0e.r]
 have hco':Xw m.tris=true:=by simpa using hco
 rw[hco']at hh1
 have hR:Zz m=(⟨m.verts,flp m.tris (Zq m.verts m.tris m.shells).flatten⟩,((Zq m.verts m.tris m.shells).length:Int),0):=by unfold Zz;rw[if_neg (by simpa using hz),if_neg hcl,if_neg hco];rfl
 rw[hR]
 have hok:=Wu hz
 have hs1:=hs m
 generalize m.shells=shs at *
 refine PureC.is (Q9 hm hf (qh rfl) ?_) rfl
 unfold L0e.c
 simp[go_sem,Mesh.enc,Mesh.cs,vsV,tsV]
 refine Q6 (hc m) ?_
 simp[go_sem,hz]
 refine Q6 hl1 ?_
 simp[go_sem]
 refine Q6 hh1 ?_
 simp[go_sem]
 refine K3 (hcv (m.verts.map V3.cs) (by simp[Jn]) (by simp;omega)) (by simp[V.cl,V.cl1,V.cl0]) ?_
 simp[go_sem]
 refine K3 (hct (m.tris.map T3.cs) (by simp[X0]) (by simp;omega)) (by simp[V.cl,V.cl1,V.cl0]) ?_
 have hsv:∀(n:Nat) (a:V3),List.map (V.sh1 n) a.cs=a.cs:=λn a=>by simp[vcs,V.sh1,V.sh0]
 have hst:∀(n:Nat) (a:T3),List.map (V.sh1 n) a.cs=a.cs:=λn a=>by simp[tcs,V.sh1,V.sh0]
 simp[go_sem,hsv,hst]
 refine Q6 hs1 ?_
 simp[go_sem,lsV]
 refine Ql (α:=Nat) (λk=>k<=shs.length)
  (λk=>⟨[(1,.p 0 1 0 0),(2,.p 1 1 0 0),(6,.p 4 1 0 0),(7,.i .i64 (Zq m.verts m.tris (shs.take k)).length),(41,lsV shs),(42,.i .i64 shs.length),(43,.i .i64 k)],
   [.arr 1 2 [m.cs],.arr 1 2 [[.nil,.nil]],.arr 1 3 (m.verts.map V3.cs),.arr 1 3 ((flp m.tris (Zq m.verts m.tris (shs.take k)).flatten).map T3.cs),.arr 1 2 [[.own 2 1 0 m.verts.length,.own 3 1 0 m.tris.length]]]⟩)
  (λk=>shs.length-k) 0 (Nat.zero_le _) ?_ ?_
 ·simp[go_sem,lsV,Zq,Q6j,Mesh.cs,vsV,tsV,Kp,Zp,hsv,hst]
 ·intro k hk
  by_cases hkl:k=shs.length
  ·subst hkl
   rw[qi]
   have hfl:=Zo m.tris (Zq m.verts m.tris shs).flatten
   generalize flp m.tris (Zq m.verts m.tris shs).flatten=T at *
   have htk:List.take m.tris.length (T.map T3.cs)=T.map T3.cs:=qe (by simp;omega)
   simp[go_sem,lsV,L0e.r,Q43,Mesh.enc,Mesh.cs,vsV,tsV,Jn,X0,htk,hfl]
  ·have hlt:k<shs.length:=by omega
   have hp:shs[k]?=some shs[k]:=q9 hlt
   have hmw:shs[k]∈shs:=List.getElem_mem _
   have htk:=Qj hp
   generalize shs[k]=sh at hp hmw htk
   obtain⟨_,hp'⟩:=q8.1 hp
   have hshl:=hok.len sh hmw
   have hshm:=hok.mem sh hmw
   have hnl:=Qav m.verts m.tris (shs.take k)
   have hnl2:(shs.take k).length=k:=by rw[qw];omega
   have hnum:=hok.num
   have hsn:=Q8d m.verts m.tris (shs.take k) sh
   rw[<- htk]at hsn
   generalize hN:Zq m.verts m.tris (shs.take k)=N at *
   have hfl:=Zo m.tris N.flatten
   simp[go_sem,lsV,hlt,hp,hp',Mesh.cs,vsV,tsV,isV]
   have hmcs:m.cs=[vsV m.verts,.l 3 (m.tris.map T3.cs)]:=rfl
   refine Zv [.c 5 0 1 3] (α:=Nat) (λj=>j<=sh.length)
    (λj=>⟨[(1,.p 0 1 0 0),(2,.p 1 1 0 0),(6,.p 4 1 0 0),(7,.i .i64 N.length),(9,isV sh),(10,.p 5 1 0 0),(41,lsV shs),(42,.i .i64 shs.length),(43,.i .i64 k),(50,isV sh),(51,.i .i64 sh.length),(52,.i .i64 j)],
     [.arr 1 2 [m.cs],.arr 1 2 [[.nil,.nil]],.arr 1 3 (m.verts.map V3.cs),.arr 1 3 ((flp m.tris N.flatten).map T3.cs),.arr 1 2 [[.own 2 1 0 m.verts.length,.own 3 1 0 m.tris.length]],
      .arr 1 2 [[vsV m.verts,.own 6 (j+1) 0 j]],.arr (j+1) 3 ((Qo m.tris (sh.take j)).map T3.cs)]⟩)
    (λj=>sh.length-j) 0 (Nat.zero_le _) ?_ ?_
   ·simp[go_sem,lsV,isV,Qo,Mesh.cs,vsV,tsV,Kp,Zp]
   ·intro j hj
    by_cases hjl:j=sh.length
    ·subst hjl
     rw[qi]
     have hpl:=Kc m.tris sh
     have hvol:=hv ⟨m.verts,Qo m.tris sh⟩
     have hve:(Mesh.mk m.verts (Qo m.tris sh)).vol6=Zk m.verts (Qo m.tris sh):=by unfold Mesh.vol6;rw[if_pos (Q20 hz hshl hshm)]
     rw[hve]at hvol
     generalize Qo m.tris sh=PT at *
     have htkp:List.take sh.length (PT.map T3.cs)=PT.map T3.cs:=qe (by simp;omega)
     simp[go_sem,lsV,isV]
     refine U6 (vs:=[(Mesh.mk m.verts PT).enc]) ?_ hvol ?_
     ·simp[go_sem,Yq,frz,Jd,Mesh.enc,Mesh.cs,vsV,tsV,X0,htkp,hpl]
     ·by_cases hneg:Zk m.verts PT<0
      ·rw[if_pos hneg]at hsn
       simp (disch:=omega) [go_sem,vsV,tsV,show ¬ (0<=Zk m.verts PT) by omega,Q3]
       refine Ql (α:=Nat) (λj=>j<=sh.length)
        (λj=>⟨[(1,.p 0 1 0 0),(2,.p 1 1 0 0),(6,.p 4 1 0 0),(7,.i .i64 (N.length+1:Nat)),(41,lsV shs),(42,.i .i64 shs.length),(43,.i .i64 k),(72,isV sh),(73,.i .i64 sh.length),(74,.i .i64 j)],
         [.arr 1 2 [m.cs],.arr 1 2 [[.nil,.nil]],.arr 1 3 (m.verts.map V3.cs),.arr 1 3 ((flp m.tris (N.flatten++sh.take j)).map T3.cs),.arr 1 2 [[.own 2 1 0 m.verts.length,.own 3 1 0 m.tris.length]]]⟩)
        (λj=>sh.length-j) 0 (Nat.zero_le _) ?_ ?_
       ·simp[go_sem,lsV,isV,Mesh.cs,vsV,tsV,Kp,Zp]
       ·intro j hj
        by_cases hjl:j=sh.length
        ·subst hjl
         rw[qi]
         simp (disch:=omega) [go_sem,lsV,isV,Q3]
         refine⟨k+1,by omega,by omega,?_⟩
         rw[hsn]
         simp[go_sem,Mesh.cs,vsV,tsV,Kp,Zp]
        ·have hjlt:j<sh.length:=by omega
         have hq:sh[j]?=some sh[j]:=q9 hjlt
         have hqm:sh[j]∈sh:=List.getElem_mem _
         have htj:=Qj hq
         generalize sh[j]=v at hq hqm htj
         obtain⟨_,hq'⟩:=q8.1 hq
         obtain⟨v0,v1⟩:=hshm v hqm
         have v2:v.toNat<m.tris.length:=by omega
         have ht:=Qi v2
         have hset:=flp_set (ts:=m.tris) (F:=N.flatten++sh.take j) v2
         rw[Int.toNat_of_nonneg v0,j2,<- htj]at hset
         have hfl2:=Zo m.tris (N.flatten++sh.take j)
         generalize tAt m.tris v.toNat=t at ht hset
         obtain⟨_,ht'⟩:=q8.1 ht
         generalize hF:flp m.tris (N.flatten++sh.take j)=FT at *
         have hFi:v.toNat<FT.length:=by omega
         have hFg:FT[v.toNat]?=some FT[v.toNat]:=q9 hFi
         generalize FT[v.toNat]=t2 at hFg
         obtain⟨_,hFg'⟩:=q8.1 hFg
         have hr1:=hr t
         simp[go_sem,T3.enc,tcs]at hr1
         simp (disch:=omega) [go_sem,lsV,isV,Mesh.cs,vsV,tsV,hjlt,hq,hq',v0,v1,v2,ht,ht',hFi,hFg,hFg',tcs,Q3]
         refine Qp hr1 ?_
         simp (disch:=omega) [go_sem,lsV,isV,Mesh.cs,vsV,tsV,hjlt,hq,hq',v0,v1,v2,ht,ht',hFi,hFg,hFg',tcs,Q3]
         refine⟨j+1,by omega,by omega,?_⟩
         exact⟨by omega,by rw[<- hset,List.map_set];rfl⟩
      ·rw[if_neg hneg,List.append_nil]at hsn
       simp (disch:=omega) [go_sem,vsV,tsV,show 0<=Zk m.verts PT by omega,Q3]
       refine⟨k+1,by omega,by omega,?_⟩
       rw[hsn]
       simp[go_sem,lsV,Mesh.cs,vsV,tsV,Kp,Zp]
    ·have hjlt:j<sh.length:=by omega
     have hq:sh[j]?=some sh[j]:=q9 hjlt
     have hqm:sh[j]∈sh:=List.getElem_mem _
     have hpj:=λv (h:sh[j]?=some v)=>Q04 (ts:=m.tris) h
     generalize sh[j]=v at hq hqm
     have hpj:=hpj v hq
     obtain⟨_,hq'⟩:=q8.1 hq
     obtain⟨v0,v1⟩:=hshm v hqm
     have v2:v.toNat<m.tris.length:=by omega
     have ht:=Qi v2
     have hpl:=Kc m.tris (sh.take j)
     rw[qw,Nat.min_eq_left (by omega)]at hpl
     generalize tAt m.tris v.toNat=t at ht hpj
     obtain⟨_,ht'⟩:=q8.1 ht
     generalize hPT:Qo m.tris (sh.take j)=PT at *
     have htkp:List.take j (PT.map T3.cs)=PT.map T3.cs:=qe (by simp;omega)
     simp (disch:=omega) [go_sem,lsV,isV,Mesh.cs,vsV,tsV,hjlt,hq,hq',v0,v1,v2,ht,ht',tcs,htkp,hpl,Q3]
     refine⟨⟨by omega,by omega⟩,j+1,by omega,by omega,?_⟩
     rw[hpj]
     exact⟨by omega,rfl,by rw[qx];rfl⟩
end
def InvC (P:Program) (f:FuncId):Prop:=∀m:Mesh,m.check=0->CallIs P f [m.enc] (.b m.inv)
def ChkC (P:Program) (f:FuncId):Prop:=∀m:Mesh,CallIs P f [m.enc] (.i .i64 (Jy m))
def NoneTo {α:Type} (p:α->Bool) (l:List α) (k:Nat):Prop:=(l.take k).any p=false
theorem NoneTo.zero {α:Type} (p:α->Bool) (l:List α):NoneTo p l 0:=by simp[NoneTo]
theorem NoneTo.all {α:Type} {p:α->Bool} {l:List α} (h:NoneTo p l l.length):l.any p=false:=by unfold NoneTo at h;rwa [qi]at h
theorem Q7s {α:Type} (p:α->Bool) {l:List α} {k:Nat} {a:α} (h:l[k]?=some a) (hn:NoneTo p l k) (ha:p a=false):NoneTo p l (k+1):=by
 unfold NoneTo at *
 rw[Qj h,List.any_append,hn];simp[ha]
theorem Qdj {α:Type} (p:α->Bool) {l:List α} {k:Nat} {a:α} (h:l[k]?=some a) (ha:p a=true):l.any p=true :=
 List.any_eq_true.2 ⟨a,qb h,ha⟩
theorem degI_at {m:Mesh} (hz:m.check=0) {k:Nat} {t:T3} (h:m.tris[k]?=some t):m.degI (k:Int)=m.deg t:=by
 have hl:=(q8.1 h).1
 unfold Mesh.degI
 rw[if_pos ⟨by omega,by omega,hz⟩,Int.toNat_natCast,h]
theorem chkR_1 {m:Mesh} (h:m.check≠0):Jy m=m.check:=by unfold Jy;rw[if_pos h]
theorem Qk8 {m:Mesh} (h:m.check=0) (h2:m.closed=false):Jy m=12:=by unfold Jy;rw[if_neg (by simpa using h),if_pos h2]
theorem chkR_3 {m:Mesh} (h:m.check=0) (h2:m.closed=true) (h3:Xw m.tris=false):Jy m=13:=by unfold Jy;rw[if_neg (by simpa using h),if_neg (by rw[h2];simp),if_pos h3]
theorem chkR_4 {m:Mesh} (h:m.check=0) (h2:m.closed=true) (h3:Xw m.tris=true):Jy m=if m.tris.any m.deg=true then 1 else if m.inv=true then 1 else 0:=by
 unfold Jy;rw[if_neg (by simpa using h),if_neg (by rw[h2];simp),if_neg (by rw[h3];simp)]
theorem Qk3 {m:Mesh} (h:m.check=0):m.coh=Xw m.tris:=by unfold Mesh.coh;rw[h];simp
section
variable {P:Program} (hm:P.follows .mixedOrders=true)
include hm
theorem Uo {f fs fv:FuncId} (hf:Qb P f (L0t.c fs fv) L0t.r L0t.n) (hs:Iq P fs) (hv:Qc0 P fv):InvC P f:=by
 intro m hz
 obtain⟨z1,z2,z3,z4⟩:=Mesh.check_zero.1 hz
 have hok:=Wu hz
 have hs1:=hs m
 unfold Mesh.inv
 generalize m.shells=shs at *
 generalize hp:(λsh=>decide (Zk m.verts (Qo m.tris sh)<0))=p
 generalize hB:shs.any p=B
 refine PureC.is (Q9 hm hf (qh rfl) ?_) rfl
 unfold L0t.c
 simp[go_sem,Mesh.enc,Mesh.cs,vsV,tsV]
 refine Q6 hs1 ?_
 simp[go_sem,lsV]
 have hsv:∀(n:Nat) (a:V3),List.map (V.sh1 n) a.cs=a.cs:=λn a=>by simp[vcs,V.sh1,V.sh0]
 have hst:∀(n:Nat) (a:T3),List.map (V.sh1 n) a.cs=a.cs:=λn a=>by simp[tcs,V.sh1,V.sh0]
 refine Ql (α:=Nat) (λk=>k<=shs.length/\NoneTo p shs k)
  (λk=>⟨[(1,.p 0 1 0 0),(9,lsV shs),(10,.i .i64 shs.length),(11,.i .i64 k)],
   [.arr 1 2 [m.cs]]⟩)
  (λk=>shs.length-k) 0 ⟨Nat.zero_le _,NoneTo.zero _ _⟩ ?_ ?_
 ·simp[go_sem,lsV,Mesh.cs,vsV,tsV,Kp,Zp,hsv,hst]
 ·rintro k ⟨hk,hno⟩
  by_cases hkl:k=shs.length
  ·subst hkl
   obtain rfl:=hB.symm.trans hno.all
   simp[go_sem,lsV,L0t.r]
  ·have hlt:k<shs.length:=by omega
   have hnum:=hok.num
   have hq:shs[k]?=some shs[k]:=q9 hlt
   have hmw:shs[k]∈shs:=List.getElem_mem _
   generalize shs[k]=sh at hq hmw
   obtain⟨_,hq'⟩:=q8.1 hq
   have hshl:=hok.len sh hmw
   have hshm:=hok.mem sh hmw
   simp[go_sem,lsV,hlt,hq,hq',Mesh.cs,vsV,tsV,isV]
   refine Zv [.c 1 0 1 3] (α:=Nat) (λj=>j<=sh.length)
    (λj=>⟨[(1,.p 0 1 0 0),(4,isV sh),(5,.p 1 1 0 0),(9,lsV shs),(10,.i .i64 shs.length),(11,.i .i64 k),(18,isV sh),(19,.i .i64 sh.length),(20,.i .i64 j)],
     [.arr 1 2 [m.cs],.arr 1 2 [[vsV m.verts,.own 2 (j+1) 0 j]],.arr (j+1) 3 ((Qo m.tris (sh.take j)).map T3.cs)]⟩)
    (λj=>sh.length-j) 0 (Nat.zero_le _) ?_ ?_
   ·simp[go_sem,lsV,isV,Qo,Mesh.cs,vsV,tsV,Kp,Zp]
   ·intro j hj
    by_cases hjl:j=sh.length
    ·subst hjl
     rw[qi]
     have hpl:=Kc m.tris sh
     have hvol:=hv ⟨m.verts,Qo m.tris sh⟩
     have hve:(Mesh.mk m.verts (Qo m.tris sh)).vol6=Zk m.verts (Qo m.tris sh):=by unfold Mesh.vol6;rw[if_pos (Q20 hz hshl hshm)]
     rw[hve]at hvol
     have hps:p sh=decide (Zk m.verts (Qo m.tris sh)<0):=by rw[<- hp]
     generalize Qo m.tris sh=PT at *
     have htkp:List.take sh.length (PT.map T3.cs)=PT.map T3.cs:=qe (by simp;omega)
     simp[go_sem,lsV,isV]
     refine U6 (vs:=[(Mesh.mk m.verts PT).enc]) ?_ hvol ?_
     ·simp[go_sem,Yq,frz,Jd,Mesh.enc,Mesh.cs,vsV,tsV,X0,htkp,hpl]
     ·by_cases hneg:Zk m.verts PT<0
      ·have ha:shs.any p=true:=Qdj p hq (by rw[hps];simpa using hneg)
       obtain rfl:=hB.symm.trans ha
       simp (disch:=omega) [go_sem,vsV,tsV,hneg,L0t.r]
      ·have ha:=Q7s p hq hno (by rw[hps];simpa using hneg)
       simp (disch:=omega) [go_sem,vsV,tsV,hneg,Q3]
       refine⟨k+1,⟨by omega,ha⟩,by omega,?_⟩
       simp (disch:=omega) [go_sem,lsV,Mesh.cs,vsV,tsV,Kp,Zp,Q3]
    ·have hjlt:j<sh.length:=by omega
     have hq2:sh[j]?=some sh[j]:=q9 hjlt
     have hqm:sh[j]∈sh:=List.getElem_mem _
     have hpj:=λv (h:sh[j]?=some v)=>Q04 (ts:=m.tris) h
     generalize sh[j]=v at hq2 hqm
     have hpj:=hpj v hq2
     obtain⟨_,hq2'⟩:=q8.1 hq2
     obtain⟨v0,v1⟩:=hshm v hqm
     have v2:v.toNat<m.tris.length:=by omega
     have ht:=Qi v2
     have hpl:=Kc m.tris (sh.take j)
     rw[qw,Nat.min_eq_left (by omega)]at hpl
     generalize tAt m.tris v.toNat=t at ht hpj
     obtain⟨_,ht'⟩:=q8.1 ht
     generalize hPT:Qo m.tris (sh.take j)=PT at *
     have htkp:List.take j (PT.map T3.cs)=PT.map T3.cs:=qe (by simp;omega)
     simp (disch:=omega) [go_sem,lsV,isV,Mesh.cs,vsV,tsV,hjlt,hq2,hq2',v0,v1,v2,ht,ht',tcs,htkp,hpl,Q3]
     refine⟨⟨by omega,by omega⟩,j+1,by omega,by omega,?_⟩
     rw[hpj]
     exact⟨by omega,rfl,by rw[qx];rfl⟩
theorem Q0d {f fc fl fh fd fi:FuncId} (hf:Qb P f (L0r.c fc fl fh fd fi) L0r.r L0r.n) (hc:Y3 P fc) (hl:Q12 P fl) (hh:Q00 P fh) (hd:DegC P fd) (hi:InvC P fi):ChkC P f:=by
 intro m
 have hl1:=hl m
 have hh1:=hh m
 by_cases hz:m.check=0
 case neg =>
  rw[chkR_1 hz]
  refine PureC.is (Q9 hm hf (qh rfl) ?_) rfl
  unfold L0r.c
  simp[go_sem,Mesh.enc,Mesh.cs]
  refine Q6 (hc m) ?_
  simp[go_sem,hz,L0r.r]
 obtain⟨z1,z2,z3,z4⟩:=Mesh.check_zero.1 hz
 rw[Qk3 hz]at hh1
 by_cases hcl:m.closed=false
 case pos =>
  rw[Qk8 hz hcl]
  rw[hcl]at hl1
  refine PureC.is (Q9 hm hf (qh rfl) ?_) rfl
  unfold L0r.c
  simp[go_sem,Mesh.enc,Mesh.cs]
  refine Q6 (hc m) ?_
  simp[go_sem,hz]
  refine Q6 hl1 ?_
  simp[go_sem,L0r.r]
 have hcl':m.closed=true:=by simpa using hcl
 rw[hcl']at hl1
 by_cases hco:Xw m.tris=false
 case pos =>
  rw[chkR_3 hz hcl' hco]
  rw[hco]at hh1
  refine PureC.is (Q9 hm hf (qh rfl) ?_) rfl
  unfold L0r.c
  simp[go_sem,Mesh.enc,Mesh.cs]
  refine Q6 (hc m) ?_
  simp[go_sem,hz]
  refine Q6 hl1 ?_
  simp[go_sem]
  refine Q6 hh1 ?_
  simp[go_sem,L0r.r]
 have hco':Xw m.tris=true:=by simpa using hco
 rw[hco']at hh1
 rw[chkR_4 hz hcl' hco']
 generalize hA:m.tris.any m.deg=A
 refine PureC.is (Q9 hm hf (qh rfl) ?_) rfl
 unfold L0r.c
 simp[go_sem,Mesh.enc,Mesh.cs,vsV,tsV]
 refine Q6 (hc m) ?_
 simp[go_sem,hz]
 refine Q6 hl1 ?_
 simp[go_sem]
 refine Q6 hh1 ?_
 have hsv:∀(n:Nat) (a:V3),List.map (V.sh1 n) a.cs=a.cs:=λn a=>by simp[vcs,V.sh1,V.sh0]
 have hst:∀(n:Nat) (a:T3),List.map (V.sh1 n) a.cs=a.cs:=λn a=>by simp[tcs,V.sh1,V.sh0]
 simp[go_sem]
 refine Ql (α:=Nat) (λk=>k<=m.tris.length/\NoneTo m.deg m.tris k)
  (λk=>⟨[(1,.p 0 1 0 0),(18,.i .i64 m.tris.length),(19,.i .i64 k)],[.arr 1 2 [m.cs]]⟩)
  (λk=>m.tris.length-k) 0 ⟨Nat.zero_le _,NoneTo.zero _ _⟩ ?_ ?_
 ·simp[go_sem,Mesh.cs,vsV,tsV,Kp,Zp,hsv,hst]
 ·rintro k ⟨hk,hno⟩
  by_cases hkl:k=m.tris.length
  ·subst hkl
   obtain rfl:=hA.symm.trans hno.all
   have hi1:=hi m hz
   simp[go_sem,Mesh.cs,vsV,tsV]
   refine Q6 hi1 ?_
   cases hin:m.inv<;>simp[go_sem,L0r.r]
  ·have hlt:k<m.tris.length:=by omega
   have hq:=Qi hlt
   have hdk:=hd m (k:Int)
   rw[degI_at hz hq]at hdk
   simp[go_sem,hlt,Mesh.cs,vsV,tsV]
   refine Q6 hdk ?_
   cases hdg:m.deg (tAt m.tris k) with
   | true =>
     have ha:m.tris.any m.deg=true:=Qdj _ hq hdg
     obtain rfl:=hA.symm.trans ha
     simp[go_sem,L0r.r]
   | false =>
     have ha:=Q7s _ hq hno hdg
     simp (disch:=omega) [go_sem,Q3]
     refine⟨k+1,⟨by omega,ha⟩,by omega,?_⟩
     simp[go_sem,Mesh.cs,vsV,tsV,Kp,Zp]
end
end Go.Abs
