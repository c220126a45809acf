/- Part of the library on which the proof stands: an abstract machine, its values and its soundness against the model; or what functions of the program do to such values. -/
import Derived.Test.YtcdjgldeiaiaoaaGreatGoDet
import Derived.Test.YtcdjgldeiaiaoaaGreatGoClone
import Derived.Test.YtcdjgldeiaiaoaaGreatGoOu
import Derived.Test.YtcdjgldeiaiaoaaGreatGoRevC
import Derived.Test.YtcdjgldeiaiaoaaGreatGoOriA
import Derived.Test.YtcdjgldeiaiaoaaGreatGoOriD
set_option linter.unusedVariables false
set_option linter.unusedSimpArgs false
namespace Go.Abs
def Je (P:Program) (f:FuncId):Prop:=∀v:V3,CallIs P f [v.enc] (.b (v.within 131072))
def CrossVC (P:Program) (f:FuncId):Prop:=∀b c:V3,b.valid=true->c.valid=true->CallIs P f [b.enc,c.enc] (crs b c).enc
def DotVC (P:Program) (f:FuncId):Prop:=∀a b:V3,a.valid=true->b.within 8589934592=true->CallIs P f [a.enc,b.enc] (.i .i64 (dot3 a b))
theorem Y6 {v:V3} (h:v.valid=true):v.within 131072=true:=by
 have:=V3.valid_iff.1 h
 simp[V3.within];omega
theorem within_mono {v:V3} {a b:Int} (hab:a<=b) (h:v.within a=true):v.within b=true:=by
 simp[V3.within]at h ⊢;omega
theorem crs_within {b c:V3} (hb:b.valid=true) (hc:c.valid=true):(crs b c).within 8589934592=true:=by
 have:=crs_b hb hc
 simp[V3.within];omega
section
variable {P:Program} (hm:P.follows .mixedOrders=true)
include hm
theorem Bj {f fw:FuncId} (hf:Q9 P f (vec_small.c fw) vec_small.r vec_small.n) (hw:Xs P fw):Je P f:=by
 intro v
 refine PureC.is (Q7 hm hf (Nat.le_of_ble_eq_true rfl) ?_) rfl
 unfold vec_small.c
 simp[go_sem,V3.enc,V3.cs]
 refine Q3 ((hw v 131072 (by omega) (by omega)).is rfl) ?_
 simp[go_sem,vec_small.r]
set_option maxHeartbeats 4000000 in
theorem Bl {f fs:FuncId} (hf:Q9 P f (vec_Cross.c fs) vec_Cross.r vec_Cross.n) (hs:Je P fs):CrossVC P f:=by
 intro b c hb hc
 refine PureC.is (Q7 hm hf (Nat.le_of_ble_eq_true rfl) ?_) rfl
 unfold vec_Cross.c
 have h1:=hs b
 have h2:=hs c
 rw[Y6 hb]at h1
 rw[Y6 hc]at h2
 obtain⟨b1,b2,b3,b4,b5,b6⟩:=V3.valid_iff.1 hb
 obtain⟨c1,c2,c3,c4,c5,c6⟩:=V3.valid_iff.1 hc
 have m1:=Ud b3 b4 c5 c6
 have m2:=Ud b5 b6 c3 c4
 have m3:=Ud b5 b6 c1 c2
 have m4:=Ud b1 b2 c5 c6
 have m5:=Ud b1 b2 c3 c4
 have m6:=Ud b3 b4 c1 c2
 have hcr:crs b c=⟨b.y*c.z-b.z*c.y,b.z*c.x-b.x*c.z,b.x*c.y-b.y*c.x⟩:=rfl
 rw[hcr]
 simp[go_sem,V3.enc,V3.cs]at h1 h2 ⊢
 refine Q3 h1 ?_
 simp[go_sem]
 refine Q3 h2 ?_
 simp (disch:=omega) [go_sem,Q0,vec_Cross.r]
set_option maxHeartbeats 4000000 in
theorem vec_Dot_ok {f fs fw:FuncId} (hf:Q9 P f (vec_Dot.c fs fw) vec_Dot.r vec_Dot.n) (hs:Je P fs) (hw:Xs P fw):DotVC P f:=by
 intro a b ha hb
 refine PureC.is (Q7 hm hf (Nat.le_of_ble_eq_true rfl) ?_) rfl
 unfold vec_Dot.c
 have h1:=hs a
 have h2:=(hw b 1099511627776 (by omega) (by omega)).is rfl
 rw[Y6 ha]at h1
 rw[within_mono (by omega) hb]at h2
 obtain⟨b1,b2,b3,b4,b5,b6⟩:=V3.valid_iff.1 ha
 simp only[V3.within,Bool.and_eq_true,decide_eq_true_eq]at hb
 obtain⟨⟨⟨⟨⟨c1,c2⟩,c3⟩,c4⟩,c5⟩,c6⟩:=hb
 have m1:=mulB b1 b2 c1 c2
 have m2:=mulB b3 b4 c3 c4
 have m3:=mulB b5 b6 c5 c6
 have hd:dot3 a b=a.x*b.x+a.y*b.y+a.z*b.z:=rfl
 rw[hd]
 simp[go_sem,V3.enc,V3.cs]at h1 h2 ⊢
 refine Q3 h1 ?_
 simp[go_sem]
 refine Q3 h2 ?_
 simp (disch:=omega) [go_sem,Q0,vec_Dot.r]
theorem vec_Det_ok {f fs fc fd:FuncId} (hf:Q9 P f (vec_Det.c fs fc fd) vec_Det.r vec_Det.n) (hs:Je P fs) (hc:CrossVC P fc) (hd:DotVC P fd):DetC P f:=by
 intro x y z hx hy hz
 refine PureC.is (Q7 hm hf (Nat.le_of_ble_eq_true rfl) ?_) rfl
 unfold vec_Det.c
 have h1:=hs y
 have h2:=hs z
 rw[Y6 hy]at h1
 rw[Y6 hz]at h2
 simp[go_sem,V3.enc,V3.cs]at h1 h2 ⊢
 refine Q3 h1 ?_
 simp[go_sem]
 refine Q3 h2 ?_
 simp[go_sem]
 refine Qf (hc y z hy hz) ?_
 simp[go_sem]
 refine Qf (hd x (crs y z) hx (crs_within hy hz)) ?_
 simp[go_sem,vec_Det.r,det3]
set_option maxHeartbeats 4000000 in
theorem Ue {f fc fd:FuncId} (hf:Q9 P f (mesh_Volume6.c fc fd) mesh_Volume6.r mesh_Volume6.n) (hc:Z8 P fc) (hd:DetC P fd):VolC P f:=by
 intro m
 refine PureC.is (Q7 hm hf (Nat.le_of_ble_eq_true rfl) ?_) rfl
 unfold mesh_Volume6.c
 have hv:m.vol6=if m.check=0 then Y2 m.verts m.tris else 0:=rfl
 by_cases hz:m.check=0
 case neg =>
  rw[hv,if_neg hz]
  simp[go_sem,Mesh.enc,Mesh.cs]
  refine Q3 (hc m) ?_
  simp[go_sem,hz,mesh_Volume6.r]
 rw[hv,if_pos hz]
 obtain⟨z1,z2,z3,z4⟩:=Mesh.check_zero.1 hz
 simp[go_sem,Mesh.enc,Mesh.cs]
 refine Q3 (hc m) ?_
 simp[go_sem,hz,vsV,tsV]
 refine Qe (α:=Nat) (λk=>k<=m.tris.length)
  (λk=>⟨[(1,.p 0 1 0 0),(3,.i .i64 (Y2 m.verts (m.tris.take k))),(10,tsV m.tris),(11,.i .i64 m.tris.length),(12,.i .i64 k)],[.arr 1 2 [m.cs]]⟩)
  (λk=>m.tris.length-k) 0 (Nat.zero_le _) ?_ ?_
 ·simp[go_sem,Mesh.cs,vsV,tsV,Bi]
 ·intro k hk
  by_cases hkl:k=m.tris.length
  ·subst hkl
   rw[List.take_length]
   simp[go_sem,Mesh.cs,vsV,tsV,mesh_Volume6.r]
  ·have hlt:k<m.tris.length:=by omega
   have hp:m.tris[k]?=some m.tris[k]:=List.getElem?_eq_getElem hlt
   generalize m.tris[k]=t at hp
   obtain⟨_,hp'⟩:=List.getElem?_eq_some_iff.1 hp
   have hok:=Bm z4 hp
   obtain⟨a1,a2,b1,b2,c1,c2⟩:=T3.ok_iff.1 hok
   have ga:=vAt_get a1 a2
   have gb:=vAt_get b1 b2
   have gc:=vAt_get c1 c2
   have va:=K4 z3 a1 a2
   have vb:=K4 z3 b1 b2
   have vc:=K4 z3 c1 c2
   have hb1:=volL_b z3 (ts:=m.tris.take k) (by
    simp only[Uj,List.all_eq_true]at z4 ⊢
    exact λx hx=>z4 x (List.mem_of_mem_take hx))
   have hb2:=volT_b z3 hok
   have hln:((m.tris.take k).length:Int)<=4096:=by rw[List.length_take];omega
   have hs:Y2 m.verts (m.tris.take (k+1))=Y2 m.verts (m.tris.take k)+volT m.verts t:=by
    rw[List.take_add_one,hp,volL_app,Option.toList_some,K3,Bi];omega
   have hvt:volT m.verts t=det3 (vAt m.verts t.a) (vAt m.verts t.b) (vAt m.verts t.c):=rfl
   have hdd:=hd _ _ _ va vb vc
   rw[<- hvt]at hdd
   clear hvt
   generalize vAt m.verts t.a=A at *
   generalize vAt m.verts t.b=B at *
   generalize vAt m.verts t.c=C at *
   generalize Y2 m.verts (m.tris.take k)=S at *
   generalize volT m.verts t=T at *
   obtain⟨ia,ga'⟩:=List.getElem?_eq_some_iff.1 ga
   obtain⟨ib,gb'⟩:=List.getElem?_eq_some_iff.1 gb
   obtain⟨ic,gc'⟩:=List.getElem?_eq_some_iff.1 gc
   simp[go_sem,Mesh.cs,vsV,tsV,hlt,hp,hp',tcs,a1,b1,c1,ga,gb,gc,ia,ib,ic,ga',gb',gc',vcs]
   simp[go_sem,V3.enc,vcs]at hdd
   refine Qf hdd ?_
   simp (disch:=omega) [go_sem,Q0]
   refine⟨k+1,by omega,by omega,?_⟩
   exact⟨hs.symm,by omega⟩
end
end Go.Abs
set_option linter.unusedVariables false
set_option linter.unusedSimpArgs false
namespace Go.Abs
def RevTC (P:Program) (f:FuncId):Prop:=∀t:T3,CallIs P f [t.enc] t.rev.enc
section
variable {P:Program} (hm:P.follows .mixedOrders=true)
include hm
theorem Ki {f:FuncId} (hf:Q9 P f orient_reversed.c orient_reversed.r orient_reversed.n):RevTC P f:=by
 intro t
 refine PureC.is (Q7 hm hf (Nat.le_of_ble_eq_true rfl) ?_) rfl
 unfold orient_reversed.c
 simp[go_sem,T3.enc,T3.cs,T3.rev,orient_reversed.r]
theorem Bz {f:FuncId} (hf:Q9 P f ref11_Reversed.c ref11_Reversed.r ref11_Reversed.n):RevTC P f:=Ki hm hf
end
end Go.Abs
set_option linter.unusedVariables false
set_option linter.unusedSimpArgs false
namespace Go.Abs
theorem Uq {ts:List T3} {sh:List Int} {j:Nat} {v:Int} (h:sh[j]?=some v):Qk ts (sh.take (j+1))=Qk ts (sh.take j)++[tAt ts v.toNat]:=by
 unfold Qk;rw[Qd h,List.map_append];rfl
theorem X4 (ts:List T3) (sh:List Int):(Qk ts sh).length=sh.length:=by simp[Qk]
section
variable {P:Program} (hm:P.follows .mixedOrders=true)
include hm
set_option maxRecDepth 20000 in
set_option maxHeartbeats 8000000 in
theorem orient_Outward_ok {f fc fl fh fcv fct fs fv fr:FuncId} (hf:Q9 P f (orient_Outward.c fc fl fh fcv fct fs fv fr) orient_Outward.r orient_Outward.n) (hc:Z8 P fc) (hl:W4 P fl) (hh:CohC P fh) (hcv:Kw P fcv 3) (hct:Kw P fct 3) (hs:Xt P fs) (hv:VolC P fv) (hr:RevTC P fr):Wn P f:=by
 intro m
 by_cases hz:m.check=0
 case neg =>
  have hR:Zs m=(⟨[],[]⟩,0,m.check):=by unfold Zs;rw[if_pos hz]
  rw[hR]
  refine CallIs.res ?_ (Jy _)
  refine PureC.is (Q7 hm hf (Nat.le_of_ble_eq_true rfl) ?_) rfl
  unfold orient_Outward.c
  simp[go_sem,Mesh.enc,Mesh.cs]
  refine Q3 (hc m) ?_
  simp[go_sem,hz,orient_Outward.r]
 have hl1:=hl m
 by_cases hcl:m.closed=false
 case pos =>
  have hR:Zs m=(⟨[],[]⟩,0,12):=by unfold Zs;rw[if_neg (by simpa using hz),if_pos hcl]
  rw[hR]
  rw[hcl]at hl1
  refine CallIs.res ?_ (Jy _)
  refine PureC.is (Q7 hm hf (Nat.le_of_ble_eq_true rfl) ?_) rfl
  unfold orient_Outward.c
  simp[go_sem,Mesh.enc,Mesh.cs]
  refine Q3 (hc m) ?_
  simp[go_sem,hz]
  refine Q3 hl1 ?_
  simp[go_sem,orient_Outward.r]
 have hcl':m.closed=true:=by simpa using hcl
 obtain⟨z1,z2,z3,z4⟩:=Mesh.check_zero.1 hz
 have hh1:=hh m.tris (by omega)
 rw[hcl']at hl1
 by_cases hco:Yv m.tris=false
 case pos =>
  have hR:Zs m=(⟨[],[]⟩,0,13):=by unfold Zs;rw[if_neg (by simpa using hz),if_neg hcl,if_pos hco]
  rw[hR]
  rw[hco]at hh1
  refine CallIs.res ?_ (Jy _)
  refine PureC.is (Q7 hm hf (Nat.le_of_ble_eq_true rfl) ?_) rfl
  unfold orient_Outward.c
  simp[go_sem,Mesh.enc,Mesh.cs]
  refine Q3 (hc m) ?_
  simp[go_sem,hz]
  refine Q3 hl1 ?_
  simp[go_sem]
  refine Q3 hh1 ?_
  simp[go_sem,orient_Outward.r]
 have hco':Yv m.tris=true:=by simpa using hco
 rw[hco']at hh1
 have hR:Zs m=(⟨m.verts,flp m.tris (Za m.verts m.tris m.shells).flatten⟩,((Za m.verts m.tris m.shells).length:Int),0):=by unfold Zs;rw[if_neg (by simpa using hz),if_neg hcl,if_neg hco];rfl
 rw[hR]
 have hok:=J3 hz
 have hs1:=hs m
 generalize m.shells=shs at *
 refine PureC.is (Q7 hm hf (Nat.le_of_ble_eq_true rfl) ?_) rfl
 unfold orient_Outward.c
 simp[go_sem,Mesh.enc,Mesh.cs,vsV,tsV]
 refine Q3 (hc m) ?_
 simp[go_sem,hz]
 refine Q3 hl1 ?_
 simp[go_sem]
 refine Q3 hh1 ?_
 simp[go_sem]
 refine Wo (hcv (m.verts.map V3.cs) (by simp[Y7]) (by simp;omega)) (by simp[V.cl,V.cl1,V.cl0]) ?_
 simp[go_sem]
 refine Wo (hct (m.tris.map T3.cs) (by simp[Zw]) (by simp;omega)) (by simp[V.cl,V.cl1,V.cl0]) ?_
 have hsv:∀(n:Nat) (a:V3),List.map (V.sh1 n) a.cs=a.cs:=λn a=>by simp[vcs,V.sh1,V.sh0]
 have hst:∀(n:Nat) (a:T3),List.map (V.sh1 n) a.cs=a.cs:=λn a=>by simp[tcs,V.sh1,V.sh0]
 simp[go_sem,hsv,hst]
 refine Q3 hs1 ?_
 simp[go_sem,lsV]
 refine Qe (α:=Nat) (λk=>k<=shs.length)
  (λk=>⟨[(1,.p 0 1 0 0),(2,.p 1 1 0 0),(6,.p 4 1 0 0),(7,.i .i64 (Za m.verts m.tris (shs.take k)).length),(41,lsV shs),(42,.i .i64 shs.length),(43,.i .i64 k)],
   [.arr 1 2 [m.cs],.arr 1 2 [[.nil,.nil]],.arr 1 3 (m.verts.map V3.cs),.arr 1 3 ((flp m.tris (Za m.verts m.tris (shs.take k)).flatten).map T3.cs),.arr 1 2 [[.own 2 1 0 m.verts.length,.own 3 1 0 m.tris.length]]]⟩)
  (λk=>shs.length-k) 0 (Nat.zero_le _) ?_ ?_
 ·simp[go_sem,lsV,Za,flp_nil,Mesh.cs,vsV,tsV,Jf,Qp,hsv,hst]
 ·intro k hk
  by_cases hkl:k=shs.length
  ·subst hkl
   rw[List.take_length]
   have hfl:=Zj m.tris (Za m.verts m.tris shs).flatten
   generalize flp m.tris (Za m.verts m.tris shs).flatten=T at *
   have htk:List.take m.tris.length (T.map T3.cs)=T.map T3.cs:=List.take_of_length_le (by simp;omega)
   simp[go_sem,lsV,orient_Outward.r,Kx,Mesh.enc,Mesh.cs,vsV,tsV,Y7,Zw,htk,hfl]
  ·have hlt:k<shs.length:=by omega
   have hp:shs[k]?=some shs[k]:=List.getElem?_eq_getElem hlt
   have hmw:shs[k]∈shs:=List.getElem_mem _
   have htk:=Qd hp
   generalize shs[k]=sh at hp hmw htk
   obtain⟨_,hp'⟩:=List.getElem?_eq_some_iff.1 hp
   have hshl:=hok.len sh hmw
   have hshm:=hok.mem sh hmw
   have hnl:=negsOf_len m.verts m.tris (shs.take k)
   have hnl2:(shs.take k).length=k:=by rw[List.length_take];omega
   have hnum:=hok.num
   have hsn:=negsOf_snoc m.verts m.tris (shs.take k) sh
   rw[<- htk]at hsn
   generalize hN:Za m.verts m.tris (shs.take k)=N at *
   have hfl:=Zj m.tris N.flatten
   simp[go_sem,lsV,hlt,hp,hp',Mesh.cs,vsV,tsV,isV]
   have hmcs:m.cs=[vsV m.verts,.l 3 (m.tris.map T3.cs)]:=rfl
   refine Qq [.c 5 0 1 3] (α:=Nat) (λj=>j<=sh.length)
    (λj=>⟨[(1,.p 0 1 0 0),(2,.p 1 1 0 0),(6,.p 4 1 0 0),(7,.i .i64 N.length),(9,isV sh),(10,.p 5 1 0 0),(41,lsV shs),(42,.i .i64 shs.length),(43,.i .i64 k),(50,isV sh),(51,.i .i64 sh.length),(52,.i .i64 j)],
     [.arr 1 2 [m.cs],.arr 1 2 [[.nil,.nil]],.arr 1 3 (m.verts.map V3.cs),.arr 1 3 ((flp m.tris N.flatten).map T3.cs),.arr 1 2 [[.own 2 1 0 m.verts.length,.own 3 1 0 m.tris.length]],
      .arr 1 2 [[vsV m.verts,.own 6 (j+1) 0 j]],.arr (j+1) 3 ((Qk m.tris (sh.take j)).map T3.cs)]⟩)
    (λj=>sh.length-j) 0 (Nat.zero_le _) ?_ ?_
   ·simp[go_sem,lsV,isV,Qk,Mesh.cs,vsV,tsV,Jf,Qp]
   ·intro j hj
    by_cases hjl:j=sh.length
    ·subst hjl
     rw[List.take_length]
     have hpl:=X4 m.tris sh
     have hvol:=hv ⟨m.verts,Qk m.tris sh⟩
     have hve:(Mesh.mk m.verts (Qk m.tris sh)).vol6=Y2 m.verts (Qk m.tris sh):=by unfold Mesh.vol6;rw[if_pos (U0 hz hshl hshm)]
     rw[hve]at hvol
     generalize Qk m.tris sh=PT at *
     have htkp:List.take sh.length (PT.map T3.cs)=PT.map T3.cs:=List.take_of_length_le (by simp;omega)
     simp[go_sem,lsV,isV]
     refine Eu (vs:=[(Mesh.mk m.verts PT).enc]) ?_ hvol ?_
     ·simp[go_sem,Zu,frz,Xm,Mesh.enc,Mesh.cs,vsV,tsV,Zw,htkp,hpl]
     ·by_cases hneg:Y2 m.verts PT<0
      ·rw[if_pos hneg]at hsn
       simp (disch:=omega) [go_sem,vsV,tsV,show ¬ (0<=Y2 m.verts PT) by omega,Q0]
       refine Qe (α:=Nat) (λj=>j<=sh.length)
        (λj=>⟨[(1,.p 0 1 0 0),(2,.p 1 1 0 0),(6,.p 4 1 0 0),(7,.i .i64 (N.length+1:Nat)),(41,lsV shs),(42,.i .i64 shs.length),(43,.i .i64 k),(72,isV sh),(73,.i .i64 sh.length),(74,.i .i64 j)],
         [.arr 1 2 [m.cs],.arr 1 2 [[.nil,.nil]],.arr 1 3 (m.verts.map V3.cs),.arr 1 3 ((flp m.tris (N.flatten++sh.take j)).map T3.cs),.arr 1 2 [[.own 2 1 0 m.verts.length,.own 3 1 0 m.tris.length]]]⟩)
        (λj=>sh.length-j) 0 (Nat.zero_le _) ?_ ?_
       ·simp[go_sem,lsV,isV,Mesh.cs,vsV,tsV,Jf,Qp]
       ·intro j hj
        by_cases hjl:j=sh.length
        ·subst hjl
         rw[List.take_length]
         simp (disch:=omega) [go_sem,lsV,isV,Q0]
         refine⟨k+1,by omega,by omega,?_⟩
         rw[hsn]
         simp[go_sem,Mesh.cs,vsV,tsV,Jf,Qp]
        ·have hjlt:j<sh.length:=by omega
         have hq:sh[j]?=some sh[j]:=List.getElem?_eq_getElem hjlt
         have hqm:sh[j]∈sh:=List.getElem_mem _
         have htj:=Qd hq
         generalize sh[j]=v at hq hqm htj
         obtain⟨_,hq'⟩:=List.getElem?_eq_some_iff.1 hq
         obtain⟨v0,v1⟩:=hshm v hqm
         have v2:v.toNat<m.tris.length:=by omega
         have ht:=Ql v2
         have hset:=flp_set (ts:=m.tris) (F:=N.flatten++sh.take j) v2
         rw[Int.toNat_of_nonneg v0,List.append_assoc,<- htj]at hset
         have hfl2:=Zj m.tris (N.flatten++sh.take j)
         generalize tAt m.tris v.toNat=t at ht hset
         obtain⟨_,ht'⟩:=List.getElem?_eq_some_iff.1 ht
         generalize hF:flp m.tris (N.flatten++sh.take j)=FT at *
         have hFi:v.toNat<FT.length:=by omega
         have hFg:FT[v.toNat]?=some FT[v.toNat]:=List.getElem?_eq_getElem hFi
         generalize FT[v.toNat]=t2 at hFg
         obtain⟨_,hFg'⟩:=List.getElem?_eq_some_iff.1 hFg
         have hr1:=hr t
         simp[go_sem,T3.enc,tcs]at hr1
         simp (disch:=omega) [go_sem,lsV,isV,Mesh.cs,vsV,tsV,hjlt,hq,hq',v0,v1,v2,ht,ht',hFi,hFg,hFg',tcs,Q0]
         refine Qf hr1 ?_
         simp (disch:=omega) [go_sem,lsV,isV,Mesh.cs,vsV,tsV,hjlt,hq,hq',v0,v1,v2,ht,ht',hFi,hFg,hFg',tcs,Q0]
         refine⟨j+1,by omega,by omega,?_⟩
         exact⟨by omega,by rw[<- hset,List.map_set];rfl⟩
      ·rw[if_neg hneg,List.append_nil]at hsn
       simp (disch:=omega) [go_sem,vsV,tsV,show 0<=Y2 m.verts PT by omega,Q0]
       refine⟨k+1,by omega,by omega,?_⟩
       rw[hsn]
       simp[go_sem,lsV,Mesh.cs,vsV,tsV,Jf,Qp]
    ·have hjlt:j<sh.length:=by omega
     have hq:sh[j]?=some sh[j]:=List.getElem?_eq_getElem hjlt
     have hqm:sh[j]∈sh:=List.getElem_mem _
     have hpj:=λv (h:sh[j]?=some v)=>Uq (ts:=m.tris) h
     generalize sh[j]=v at hq hqm
     have hpj:=hpj v hq
     obtain⟨_,hq'⟩:=List.getElem?_eq_some_iff.1 hq
     obtain⟨v0,v1⟩:=hshm v hqm
     have v2:v.toNat<m.tris.length:=by omega
     have ht:=Ql v2
     have hpl:=X4 m.tris (sh.take j)
     rw[List.length_take,Nat.min_eq_left (by omega)]at hpl
     generalize tAt m.tris v.toNat=t at ht hpj
     obtain⟨_,ht'⟩:=List.getElem?_eq_some_iff.1 ht
     generalize hPT:Qk m.tris (sh.take j)=PT at *
     have htkp:List.take j (PT.map T3.cs)=PT.map T3.cs:=List.take_of_length_le (by simp;omega)
     simp (disch:=omega) [go_sem,lsV,isV,Mesh.cs,vsV,tsV,hjlt,hq,hq',v0,v1,v2,ht,ht',tcs,htkp,hpl,Q0]
     refine⟨⟨by omega,by omega⟩,j+1,by omega,by omega,?_⟩
     rw[hpj]
     exact⟨by omega,rfl,by rw[List.map_append];rfl⟩
end
end Go.Abs
set_option linter.unusedVariables false
set_option linter.unusedSimpArgs false
namespace Go.Abs
def PartC (P:Program) (f:FuncId):Prop:=∀(m:Mesh) (sh:List Int),sh.length<=4096->(∀v∈sh,0<=v/\v<m.tris.length)->CallIs P f [m.enc,isV sh] (Mesh.mk m.verts (Qk m.tris sh)).enc
theorem app_new {A sh:List Int} (h:(A++sh).Nodup) {j:Nat} {v:Int} (hv:sh[j]?=some v):v∉A++sh.take j:=by
 intro hm
 have hlt:=(List.getElem?_eq_some_iff.1 hv).1
 have h1:=List.take_append_drop j sh
 rw[List.drop_eq_getElem_cons hlt,(List.getElem?_eq_some_iff.1 hv).2]at h1
 rw[<- h1,<- List.append_assoc]at h
 exact(List.nodup_append.1 h).2.2 v hm v (by simp) rfl
section
variable {P:Program} (hm:P.follows .mixedOrders=true)
include hm
set_option maxHeartbeats 4000000 in
theorem Ib {f:FuncId} (hf:Q9 P f ref11_part.c ref11_part.r ref11_part.n):PartC P f:=by
 intro m sh hshl hshm
 refine PureC.is (Q7 hm hf (Nat.le_of_ble_eq_true rfl) ?_) rfl
 unfold ref11_part.c
 simp[go_sem,Mesh.enc,Mesh.cs,vsV,tsV,isV]
 refine Qq [.c 2 0 1 3] (α:=Nat) (λj=>j<=sh.length)
  (λj=>⟨[(1,isV sh),(2,.p 0 1 0 0),(4,.p 1 1 0 0),(5,.p 2 1 0 0),(6,.i .i64 j)],
   [.arr 1 2 [m.cs],.arr 1 2 [[.nil,.nil]],.arr 1 2 [[vsV m.verts,.own 3 (j+1) 0 j]],.arr (j+1) 3 ((Qk m.tris (sh.take j)).map T3.cs)]⟩)
  (λj=>sh.length-j) 0 (Nat.zero_le _) ?_ ?_
 ·simp[go_sem,isV,Qk,Mesh.cs,vsV,tsV]
 ·intro j hj
  by_cases hjl:j=sh.length
  ·subst hjl
   rw[List.take_length]
   have hpl:=X4 m.tris sh
   generalize Qk m.tris sh=PT at *
   have htkp:List.take sh.length (PT.map T3.cs)=PT.map T3.cs:=List.take_of_length_le (by simp;omega)
   simp[go_sem,isV,ref11_part.r,Mesh.enc,Mesh.cs,vsV,tsV,Zw,Y7,htkp,hpl]
  ·have hjlt:j<sh.length:=by omega
   have hq:sh[j]?=some sh[j]:=List.getElem?_eq_getElem hjlt
   have hqm:sh[j]∈sh:=List.getElem_mem _
   have hpj:=λv (h:sh[j]?=some v)=>Uq (ts:=m.tris) h
   generalize sh[j]=v at hq hqm
   have hpj:=hpj v hq
   obtain⟨_,hq'⟩:=List.getElem?_eq_some_iff.1 hq
   obtain⟨v0,v1⟩:=hshm v hqm
   have v2:v.toNat<m.tris.length:=by omega
   have ht:=Ql v2
   have hpl:=X4 m.tris (sh.take j)
   rw[List.length_take,Nat.min_eq_left (by omega)]at hpl
   generalize tAt m.tris v.toNat=t at ht hpj
   obtain⟨_,ht'⟩:=List.getElem?_eq_some_iff.1 ht
   generalize hPT:Qk m.tris (sh.take j)=PT at *
   have htkp:List.take j (PT.map T3.cs)=PT.map T3.cs:=List.take_of_length_le (by simp;omega)
   simp (disch:=omega) [go_sem,isV,Mesh.cs,vsV,tsV,hjlt,hq,hq',v0,v1,v2,ht,ht',tcs,htkp,hpl,Q0]
   refine⟨⟨by omega,by omega⟩,j+1,by omega,by omega,?_⟩
   rw[hpj]
   exact⟨by omega,rfl,by rw[List.map_append];rfl⟩
set_option maxRecDepth 20000 in
set_option maxHeartbeats 8000000 in
theorem ref11_Outward_ok {f fc fl fh fs fp fv fr:FuncId} (hf:Q9 P f (ref11_Outward.c fc fl fh fs fp fv fr) ref11_Outward.r ref11_Outward.n) (hc:Z8 P fc) (hl:W4 P fl) (hh:CohC P fh) (hs:Xt P fs) (hp:PartC P fp) (hv:VolC P fv) (hr:RevTC P fr):Wn P f:=by
 intro m
 by_cases hz:m.check=0
 case neg =>
  have hR:Zs m=(⟨[],[]⟩,0,m.check):=by unfold Zs;rw[if_pos hz]
  rw[hR]
  refine CallIs.res ?_ (Jy _)
  refine PureC.is (Q7 hm hf (Nat.le_of_ble_eq_true rfl) ?_) rfl
  unfold ref11_Outward.c
  simp[go_sem,Mesh.enc,Mesh.cs]
  refine Q3 (hc m) ?_
  simp[go_sem,hz,ref11_Outward.r]
 have hl1:=hl m
 by_cases hcl:m.closed=false
 case pos =>
  have hR:Zs m=(⟨[],[]⟩,0,12):=by unfold Zs;rw[if_neg (by simpa using hz),if_pos hcl]
  rw[hR]
  rw[hcl]at hl1
  refine CallIs.res ?_ (Jy _)
  refine PureC.is (Q7 hm hf (Nat.le_of_ble_eq_true rfl) ?_) rfl
  unfold ref11_Outward.c
  simp[go_sem,Mesh.enc,Mesh.cs]
  refine Q3 (hc m) ?_
  simp[go_sem,hz]
  refine Q3 hl1 ?_
  simp[go_sem,ref11_Outward.r]
 have hcl':m.closed=true:=by simpa using hcl
 obtain⟨z1,z2,z3,z4⟩:=Mesh.check_zero.1 hz
 have hh1:=hh m.tris (by omega)
 rw[hcl']at hl1
 by_cases hco:Yv m.tris=false
 case pos =>
  have hR:Zs m=(⟨[],[]⟩,0,13):=by unfold Zs;rw[if_neg (by simpa using hz),if_neg hcl,if_pos hco]
  rw[hR]
  rw[hco]at hh1
  refine CallIs.res ?_ (Jy _)
  refine PureC.is (Q7 hm hf (Nat.le_of_ble_eq_true rfl) ?_) rfl
  unfold ref11_Outward.c
  simp[go_sem,Mesh.enc,Mesh.cs]
  refine Q3 (hc m) ?_
  simp[go_sem,hz]
  refine Q3 hl1 ?_
  simp[go_sem]
  refine Q3 hh1 ?_
  simp[go_sem,ref11_Outward.r]
 have hco':Yv m.tris=true:=by simpa using hco
 rw[hco']at hh1
 have hR:Zs m=(⟨m.verts,flp m.tris (Za m.verts m.tris m.shells).flatten⟩,((Za m.verts m.tris m.shells).length:Int),0):=by unfold Zs;rw[if_neg (by simpa using hz),if_neg hcl,if_neg hco];rfl
 rw[hR]
 have hok:=J3 hz
 have hs1:=hs m
 generalize m.shells=shs at *
 refine PureC.is (Q7 hm hf (Nat.le_of_ble_eq_true rfl) ?_) rfl
 unfold ref11_Outward.c
 simp[go_sem,Mesh.enc,Mesh.cs,vsV,tsV]
 refine Q3 (hc m) ?_
 simp[go_sem,hz]
 refine Q3 hl1 ?_
 simp[go_sem]
 refine Q3 hh1 ?_
 simp[go_sem]
 refine Q3 hs1 ?_
 simp[go_sem,lsV]
 refine⟨⟨by omega,by omega⟩,?_⟩
 refine Qe (α:=Nat) (λk=>k<=shs.length)
  (λk=>⟨[(1,.p 0 1 0 0),(2,.p 1 1 0 0),(6,lsV shs),(7,.own 2 1 0 m.tris.length),(8,.i .i64 (Za m.verts m.tris (shs.take k)).length),(9,.i .i64 k)],
   [.arr 1 2 [m.cs],.arr 1 2 [[.nil,.nil]],.arr 1 3 ((flp m.tris (Za m.verts m.tris (shs.take k)).flatten).map T3.cs)]⟩)
  (λk=>shs.length-k) 0 (Nat.zero_le _) ?_ ?_
 ·simp[go_sem,lsV,Za,flp_nil,Mesh.cs,vsV,tsV,Qp]
 ·intro k hk
  by_cases hkl:k=shs.length
  ·subst hkl
   rw[List.take_length]
   have hfl:=Zj m.tris (Za m.verts m.tris shs).flatten
   generalize flp m.tris (Za m.verts m.tris shs).flatten=T at *
   have htk:List.take m.tris.length (T.map T3.cs)=T.map T3.cs:=List.take_of_length_le (by simp;omega)
   simp[go_sem,lsV,ref11_Outward.r,Kx,Mesh.enc,Mesh.cs,vsV,tsV,Y7,Zw,htk,hfl]
   exact⟨by omega,by omega⟩
  ·have hlt:k<shs.length:=by omega
   have hp0:shs[k]?=some shs[k]:=List.getElem?_eq_getElem hlt
   have hmw:shs[k]∈shs:=List.getElem_mem _
   have htk:=Qd hp0
   generalize shs[k]=sh at hp0 hmw htk
   obtain⟨_,hp'⟩:=List.getElem?_eq_some_iff.1 hp0
   have hshl:=hok.len sh hmw
   have hshm:=hok.mem sh hmw
   have hnl:=negsOf_len m.verts m.tris (shs.take k)
   have hnl2:(shs.take k).length=k:=by rw[List.length_take];omega
   have hnum:=hok.num
   have hsn:=negsOf_snoc m.verts m.tris (shs.take k) sh
   rw[<- htk]at hsn
   have hnd:=negs_nodup (vs:=m.verts) (ts:=m.tris) hok.nodup hp0
   generalize hN:Za m.verts m.tris (shs.take k)=N at *
   have hfl:=Zj m.tris N.flatten
   have hp1:=hp m sh (by omega) hshm
   have hvol:=hv ⟨m.verts,Qk m.tris sh⟩
   have hve:(Mesh.mk m.verts (Qk m.tris sh)).vol6=Y2 m.verts (Qk m.tris sh):=by unfold Mesh.vol6;rw[if_pos (U0 hz hshl hshm)]
   rw[hve]at hvol
   have hpl:=X4 m.tris sh
   generalize Qk m.tris sh=PT at *
   simp[go_sem,lsV,hlt,hp0,hp',Mesh.cs,vsV,tsV]
   refine Qf hp1 ?_
   simp[go_sem]
   refine Qf hvol ?_
   by_cases hneg:Y2 m.verts PT<0
   ·rw[if_pos hneg]at hsn
    simp (disch:=omega) [go_sem,lsV,vsV,tsV,show ¬ (0<=Y2 m.verts PT) by omega,Q0]
    refine Qe (α:=Nat) (λj=>j<=sh.length)
     (λj=>⟨[(1,.p 0 1 0 0),(2,.p 1 1 0 0),(6,lsV shs),(7,.own 2 1 0 m.tris.length),(8,.i .i64 (N.length+1:Nat)),(9,.i .i64 k),(10,.i .i64 j)],
      [.arr 1 2 [m.cs],.arr 1 2 [[.nil,.nil]],.arr 1 3 ((flp m.tris (N.flatten++sh.take j)).map T3.cs)]⟩)
     (λj=>sh.length-j) 0 (Nat.zero_le _) ?_ ?_
    ·simp[go_sem,lsV,isV,Mesh.cs,vsV,tsV,Qp]
    ·intro j hj
     by_cases hjl:j=sh.length
     ·subst hjl
      rw[List.take_length]
      simp (disch:=omega) [go_sem,lsV,isV,hlt,hp0,hp',Q0]
      refine⟨k+1,by omega,by omega,?_⟩
      rw[hsn]
      simp[go_sem,Mesh.cs,vsV,tsV,Qp]
     ·have hjlt:j<sh.length:=by omega
      have hq:sh[j]?=some sh[j]:=List.getElem?_eq_getElem hjlt
      have hqm:sh[j]∈sh:=List.getElem_mem _
      have htj:=Qd hq
      have hnm:sh[j]∉N.flatten++sh.take j:=by
       exact app_new hnd hq
      generalize sh[j]=v at hq hqm htj hnm
      obtain⟨_,hq'⟩:=List.getElem?_eq_some_iff.1 hq
      obtain⟨v0,v1⟩:=hshm v hqm
      have v2:v.toNat<m.tris.length:=by omega
      have hset:=flp_set (ts:=m.tris) (F:=N.flatten++sh.take j) v2
      have hget:=U4 (ts:=m.tris) (F:=N.flatten++sh.take j) v2
      rw[Int.toNat_of_nonneg v0,List.append_assoc,<- htj]at hset
      rw[Int.toNat_of_nonneg v0,if_neg hnm]at hget
      have hfl2:=Zj m.tris (N.flatten++sh.take j)
      generalize tAt m.tris v.toNat=t at hget hset
      generalize hF:flp m.tris (N.flatten++sh.take j)=FT at *
      have hFi:v.toNat<FT.length:=by omega
      obtain⟨_,hget'⟩:=List.getElem?_eq_some_iff.1 hget
      have hr1:=hr t
      simp[go_sem,T3.enc,tcs]at hr1
      simp (disch:=omega) [go_sem,lsV,isV,Mesh.cs,vsV,tsV,hlt,hp0,hp',hjlt,hq,hq',v0,v1,v2,hget,hget',hFi,tcs,Q0]
      refine Qf hr1 ?_
      simp (disch:=omega) [go_sem,lsV,isV,Mesh.cs,vsV,tsV,hlt,hp0,hp',hjlt,hq,hq',v0,v1,v2,hget,hget',hFi,tcs,Q0]
      refine⟨j+1,by omega,by omega,?_⟩
      exact⟨by omega,by rw[<- hset,List.map_set];rfl⟩
   ·rw[if_neg hneg,List.append_nil]at hsn
    simp (disch:=omega) [go_sem,lsV,vsV,tsV,show 0<=Y2 m.verts PT by omega,Q0]
    refine⟨k+1,by omega,by omega,?_⟩
    rw[hsn]
    simp[go_sem,lsV,Mesh.cs,vsV,tsV,Qp]
end
end Go.Abs
