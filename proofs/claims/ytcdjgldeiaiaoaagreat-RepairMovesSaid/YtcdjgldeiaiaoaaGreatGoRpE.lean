/- Part of the library on which the proof stands: an abstract machine, its values and its soundness against the model; or what functions of the program do to such values. -/
import Derived.Test.YtcdjgldeiaiaoaaGreatGoSecH
import Derived.Test.YtcdjgldeiaiaoaaGreatGoRv
import Derived.Test.YtcdjgldeiaiaoaaGreatGoClone
import Derived.Test.YtcdjgldeiaiaoaaGreatGoRp
set_option linter.unusedVariables false
set_option linter.unusedSimpArgs false
namespace Go.Abs
theorem partOf_succ {ts:List T3} {sh:List Int} {j:Nat} {v:Int} (h:sh[j]? = some v):partOf ts (sh.take (j + 1)) = partOf ts (sh.take j) ++ [tAt ts v.toNat]:=by
 unfold partOf;rw [take_succ_get h,List.map_append];rfl
theorem partOf_len (ts:List T3) (sh:List Int):(partOf ts sh).length = sh.length:=by simp [partOf]
section
variable {P:Program} (hm:P.follows .mixedOrders = true)
include hm
set_option maxRecDepth 20000 in
set_option maxHeartbeats 8000000 in
theorem orient_Outward_ok {f fc fl fh fcv fct fs fv fr:FuncId} (hf:FnOk P f (orient_Outward.c fc fl fh fcv fct fs fv fr) orient_Outward.r orient_Outward.n) (hc:CheckC P fc) (hl:ClosedC P fl) (hh:CohC P fh) (hcv:CloneC P fcv 3) (hct:CloneC P fct 3) (hs:ShellsC P fs) (hv:VolC P fv) (hr:RevTC P fr):OutwardC P f:=by
 intro m
 by_cases hz:m.check = 0
 case neg =>
  have hR:outR m = (⟨[],[]⟩,0,m.check):=by unfold outR;rw [if_pos hz]
  rw [hR]
  refine CallIs.res ?_ (mieV_no _)
  refine PureC.is (pure_of hm hf (Nat.le_of_ble_eq_true rfl) ?_) rfl
  unfold orient_Outward.c
  simp [go_sem,Mesh.enc,Mesh.cs]
  refine ACall_is (hc m) ?_
  simp [go_sem,hz,orient_Outward.r]
 have hl1:=hl m
 by_cases hcl:m.closed = false
 case pos =>
  have hR:outR m = (⟨[],[]⟩,0,12):=by unfold outR;rw [if_neg (by simpa using hz),if_pos hcl]
  rw [hR]
  rw [hcl] at hl1
  refine CallIs.res ?_ (mieV_no _)
  refine PureC.is (pure_of hm hf (Nat.le_of_ble_eq_true rfl) ?_) rfl
  unfold orient_Outward.c
  simp [go_sem,Mesh.enc,Mesh.cs]
  refine ACall_is (hc m) ?_
  simp [go_sem,hz]
  refine ACall_is hl1 ?_
  simp [go_sem,orient_Outward.r]
 have hcl':m.closed = true:=by simpa using hcl
 obtain⟨z1,z2,z3,z4⟩:=Mesh.check_zero.1 hz
 have hh1:=hh m.tris (by omega)
 rw [hcl'] at hl1
 by_cases hco:cohB m.tris = false
 case pos =>
  have hR:outR m = (⟨[],[]⟩,0,13):=by unfold outR;rw [if_neg (by simpa using hz),if_neg hcl,if_pos hco]
  rw [hR]
  rw [hco] at hh1
  refine CallIs.res ?_ (mieV_no _)
  refine PureC.is (pure_of hm hf (Nat.le_of_ble_eq_true rfl) ?_) rfl
  unfold orient_Outward.c
  simp [go_sem,Mesh.enc,Mesh.cs]
  refine ACall_is (hc m) ?_
  simp [go_sem,hz]
  refine ACall_is hl1 ?_
  simp [go_sem]
  refine ACall_is hh1 ?_
  simp [go_sem,orient_Outward.r]
 have hco':cohB m.tris = true:=by simpa using hco
 rw [hco'] at hh1
 have hR:outR m = (⟨m.verts,flp m.tris (negsOf m.verts m.tris m.shells).flatten⟩,((negsOf m.verts m.tris m.shells).length:Int),0):=by unfold outR;rw [if_neg (by simpa using hz),if_neg hcl,if_neg hco];rfl
 rw [hR]
 have hok:=shells_ok hz
 have hs1:=hs m
 generalize m.shells = shs at *
 refine PureC.is (pure_of hm hf (Nat.le_of_ble_eq_true rfl) ?_) rfl
 unfold orient_Outward.c
 simp [go_sem,Mesh.enc,Mesh.cs,vsV,tsV]
 refine ACall_is (hc m) ?_
 simp [go_sem,hz]
 refine ACall_is hl1 ?_
 simp [go_sem]
 refine ACall_is hh1 ?_
 simp [go_sem]
 refine DCall_new (hcv (m.verts.map V3.cs) (by simp [vcs_isD]) (by simp;omega)) (by simp [V.cl,V.cl1,V.cl0]) ?_
 simp [go_sem]
 refine DCall_new (hct (m.tris.map T3.cs) (by simp [tcs_isD]) (by simp;omega)) (by simp [V.cl,V.cl1,V.cl0]) ?_
 have hsv:∀ (n:Nat) (a:V3),List.map (V.sh1 n) a.cs = a.cs:=fun n a=>by simp [vcs,V.sh1,V.sh0]
 have hst:∀ (n:Nat) (a:T3),List.map (V.sh1 n) a.cs = a.cs:=fun n a=>by simp [tcs,V.sh1,V.sh0]
 simp [go_sem,hsv,hst]
 refine ACall_is hs1 ?_
 simp [go_sem,lsV]
 refine AS_loop (α:=Nat) (fun k=>k ≤ shs.length)
  (fun k=>⟨[(1,.p 0 1 0 0),(2,.p 1 1 0 0),(6,.p 4 1 0 0),(7,.i .i64 (negsOf m.verts m.tris (shs.take k)).length),(41,lsV shs),(42,.i .i64 shs.length),(43,.i .i64 k)],
   [.arr 1 2 [m.cs],.arr 1 2 [[.nil,.nil]],.arr 1 3 (m.verts.map V3.cs),.arr 1 3 ((flp m.tris (negsOf m.verts m.tris (shs.take k)).flatten).map T3.cs),.arr 1 2 [[.own 2 1 0 m.verts.length,.own 3 1 0 m.tris.length]]]⟩)
  (fun k=>shs.length - k) 0 (Nat.zero_le _) ?_ ?_
 ·simp [go_sem,lsV,negsOf,flp_nil,Mesh.cs,vsV,tsV,v3_cl,t3c_cl,hsv,hst]
 ·intro k hk
  by_cases hkl:k = shs.length
  ·subst hkl
   rw [List.take_length]
   have hfl:=flp_len m.tris (negsOf m.verts m.tris shs).flatten
   generalize flp m.tris (negsOf m.verts m.tris shs).flatten = T at *
   have htk:List.take m.tris.length (T.map T3.cs) = T.map T3.cs:=List.take_of_length_le (by simp;omega)
   simp [go_sem,lsV,orient_Outward.r,mieV,Mesh.enc,Mesh.cs,vsV,tsV,vcs_isD,tcs_isD,htk,hfl]
  ·have hlt:k < shs.length:=by omega
   have hp:shs[k]? = some shs[k]:=List.getElem?_eq_getElem hlt
   have hmw:shs[k] ∈ shs:=List.getElem_mem _
   have htk:=take_succ_get hp
   generalize shs[k] = sh at hp hmw htk
   obtain⟨_,hp'⟩:=List.getElem?_eq_some_iff.1 hp
   have hshl:=hok.len sh hmw
   have hshm:=hok.mem sh hmw
   have hnl:=negsOf_len m.verts m.tris (shs.take k)
   have hnl2:(shs.take k).length = k:=by rw [List.length_take];omega
   have hnum:=hok.num
   have hsn:=negsOf_snoc m.verts m.tris (shs.take k) sh
   rw [← htk] at hsn
   generalize hN:negsOf m.verts m.tris (shs.take k) = N at *
   have hfl:=flp_len m.tris N.flatten
   simp [go_sem,lsV,hlt,hp,hp',Mesh.cs,vsV,tsV,isV]
   have hmcs:m.cs = [vsV m.verts,.l 3 (m.tris.map T3.cs)]:=rfl
   refine AS_loopG [.c 5 0 1 3] (α:=Nat) (fun j=>j ≤ sh.length)
    (fun j=>⟨[(1,.p 0 1 0 0),(2,.p 1 1 0 0),(6,.p 4 1 0 0),(7,.i .i64 N.length),(9,isV sh),(10,.p 5 1 0 0),(41,lsV shs),(42,.i .i64 shs.length),(43,.i .i64 k),(50,isV sh),(51,.i .i64 sh.length),(52,.i .i64 j)],
     [.arr 1 2 [m.cs],.arr 1 2 [[.nil,.nil]],.arr 1 3 (m.verts.map V3.cs),.arr 1 3 ((flp m.tris N.flatten).map T3.cs),.arr 1 2 [[.own 2 1 0 m.verts.length,.own 3 1 0 m.tris.length]],
      .arr 1 2 [[vsV m.verts,.own 6 (j + 1) 0 j]],.arr (j + 1) 3 ((partOf m.tris (sh.take j)).map T3.cs)]⟩)
    (fun j=>sh.length - j) 0 (Nat.zero_le _) ?_ ?_
   ·simp [go_sem,lsV,isV,partOf,Mesh.cs,vsV,tsV,v3_cl,t3c_cl]
   ·intro j hj
    by_cases hjl:j = sh.length
    ·subst hjl
     rw [List.take_length]
     have hpl:=partOf_len m.tris sh
     have hvol:=hv ⟨m.verts,partOf m.tris sh⟩
     have hve:(Mesh.mk m.verts (partOf m.tris sh)).vol6 = volL m.verts (partOf m.tris sh):=by unfold Mesh.vol6;rw [if_pos (part_check hz hshl hshm)]
     rw [hve] at hvol
     generalize partOf m.tris sh = PT at *
     have htkp:List.take sh.length (PT.map T3.cs) = PT.map T3.cs:=List.take_of_length_le (by simp;omega)
     simp [go_sem,lsV,isV]
     refine ACall_frz (vs:=[(Mesh.mk m.verts PT).enc]) ?_ hvol ?_
     ·simp [go_sem,frzAll,frz,frz0,Mesh.enc,Mesh.cs,vsV,tsV,tcs_isD,htkp,hpl]
     ·by_cases hneg:volL m.verts PT < 0
      ·rw [if_pos hneg] at hsn
       simp (disch:=omega) [go_sem,vsV,tsV,show ¬ (0 ≤ volL m.verts PT) by omega,wrap64_small]
       refine AS_loop (α:=Nat) (fun j=>j ≤ sh.length)
        (fun j=>⟨[(1,.p 0 1 0 0),(2,.p 1 1 0 0),(6,.p 4 1 0 0),(7,.i .i64 (N.length + 1:Nat)),(41,lsV shs),(42,.i .i64 shs.length),(43,.i .i64 k),(72,isV sh),(73,.i .i64 sh.length),(74,.i .i64 j)],
         [.arr 1 2 [m.cs],.arr 1 2 [[.nil,.nil]],.arr 1 3 (m.verts.map V3.cs),.arr 1 3 ((flp m.tris (N.flatten ++ sh.take j)).map T3.cs),.arr 1 2 [[.own 2 1 0 m.verts.length,.own 3 1 0 m.tris.length]]]⟩)
        (fun j=>sh.length - j) 0 (Nat.zero_le _) ?_ ?_
       ·simp [go_sem,lsV,isV,Mesh.cs,vsV,tsV,v3_cl,t3c_cl]
       ·intro j hj
        by_cases hjl:j = sh.length
        ·subst hjl
         rw [List.take_length]
         simp (disch:=omega) [go_sem,lsV,isV,wrap64_small]
         refine⟨k + 1,by omega,by omega,?_⟩
         rw [hsn]
         simp [go_sem,Mesh.cs,vsV,tsV,v3_cl,t3c_cl]
        ·have hjlt:j < sh.length:=by omega
         have hq:sh[j]? = some sh[j]:=List.getElem?_eq_getElem hjlt
         have hqm:sh[j] ∈ sh:=List.getElem_mem _
         have htj:=take_succ_get hq
         generalize sh[j] = v at hq hqm htj
         obtain⟨_,hq'⟩:=List.getElem?_eq_some_iff.1 hq
         obtain⟨v0,v1⟩:=hshm v hqm
         have v2:v.toNat < m.tris.length:=by omega
         have ht:=tAt_get v2
         have hset:=flp_set (ts:=m.tris) (F:=N.flatten ++ sh.take j) v2
         rw [Int.toNat_of_nonneg v0,List.append_assoc,← htj] at hset
         have hfl2:=flp_len m.tris (N.flatten ++ sh.take j)
         generalize tAt m.tris v.toNat = t at ht hset
         obtain⟨_,ht'⟩:=List.getElem?_eq_some_iff.1 ht
         generalize hF:flp m.tris (N.flatten ++ sh.take j) = FT at *
         have hFi:v.toNat < FT.length:=by omega
         have hFg:FT[v.toNat]? = some FT[v.toNat]:=List.getElem?_eq_getElem hFi
         generalize FT[v.toNat] = t2 at hFg
         obtain⟨_,hFg'⟩:=List.getElem?_eq_some_iff.1 hFg
         have hr1:=hr t
         simp [go_sem,T3.enc,tcs] at hr1
         simp (disch:=omega) [go_sem,lsV,isV,Mesh.cs,vsV,tsV,hjlt,hq,hq',v0,v1,v2,ht,ht',hFi,hFg,hFg',tcs,wrap64_small]
         refine DCall_is hr1 ?_
         simp (disch:=omega) [go_sem,lsV,isV,Mesh.cs,vsV,tsV,hjlt,hq,hq',v0,v1,v2,ht,ht',hFi,hFg,hFg',tcs,wrap64_small]
         refine⟨j + 1,by omega,by omega,?_⟩
         exact⟨by omega,by rw [← hset,List.map_set];rfl⟩
      ·rw [if_neg hneg,List.append_nil] at hsn
       simp (disch:=omega) [go_sem,vsV,tsV,show 0 ≤ volL m.verts PT by omega,wrap64_small]
       refine⟨k + 1,by omega,by omega,?_⟩
       rw [hsn]
       simp [go_sem,lsV,Mesh.cs,vsV,tsV,v3_cl,t3c_cl]
    ·have hjlt:j < sh.length:=by omega
     have hq:sh[j]? = some sh[j]:=List.getElem?_eq_getElem hjlt
     have hqm:sh[j] ∈ sh:=List.getElem_mem _
     have hpj:=fun v (h:sh[j]? = some v)=>partOf_succ (ts:=m.tris) h
     generalize sh[j] = v at hq hqm
     have hpj:=hpj v hq
     obtain⟨_,hq'⟩:=List.getElem?_eq_some_iff.1 hq
     obtain⟨v0,v1⟩:=hshm v hqm
     have v2:v.toNat < m.tris.length:=by omega
     have ht:=tAt_get v2
     have hpl:=partOf_len m.tris (sh.take j)
     rw [List.length_take,Nat.min_eq_left (by omega)] at hpl
     generalize tAt m.tris v.toNat = t at ht hpj
     obtain⟨_,ht'⟩:=List.getElem?_eq_some_iff.1 ht
     generalize hPT:partOf m.tris (sh.take j) = PT at *
     have htkp:List.take j (PT.map T3.cs) = PT.map T3.cs:=List.take_of_length_le (by simp;omega)
     simp (disch:=omega) [go_sem,lsV,isV,Mesh.cs,vsV,tsV,hjlt,hq,hq',v0,v1,v2,ht,ht',tcs,htkp,hpl,wrap64_small]
     refine⟨⟨by omega,by omega⟩,j + 1,by omega,by omega,?_⟩
     rw [hpj]
     exact⟨by omega,rfl,by rw [List.map_append];rfl⟩
end
end Go.Abs
set_option linter.unusedVariables false
set_option linter.unusedSimpArgs false
namespace Go.Abs
def InvC (P:Program) (f:FuncId):Prop:=∀ m:Mesh,m.check = 0→CallIs P f [m.enc] (.b m.inv)
def ChkC (P:Program) (f:FuncId):Prop:=∀ m:Mesh,CallIs P f [m.enc] (.i .i64 (chkR m))
def NoneTo {α:Type} (p:α→Bool) (l:List α) (k:Nat):Prop:=(l.take k).any p = false
theorem NoneTo.zero {α:Type} (p:α→Bool) (l:List α):NoneTo p l 0:=by simp [NoneTo]
theorem NoneTo.all {α:Type} {p:α→Bool} {l:List α} (h:NoneTo p l l.length):l.any p = false:=by unfold NoneTo at h;rwa [List.take_length] at h
theorem take_any {α:Type} (p:α→Bool) {l:List α} {k:Nat} {a:α} (h:l[k]? = some a) (hn:NoneTo p l k) (ha:p a = false):NoneTo p l (k + 1):=by
 unfold NoneTo at *
 rw [take_succ_get h,List.any_append,hn];simp [ha]
theorem any_hit {α:Type} (p:α→Bool) {l:List α} {k:Nat} {a:α} (h:l[k]? = some a) (ha:p a = true):l.any p = true :=
 List.any_eq_true.2 ⟨a,List.mem_of_getElem? h,ha⟩
theorem degI_at {m:Mesh} (hz:m.check = 0) {k:Nat} {t:T3} (h:m.tris[k]? = some t):m.degI (k:Int) = m.deg t:=by
 have hl:=(List.getElem?_eq_some_iff.1 h).1
 unfold Mesh.degI
 rw [if_pos ⟨by omega,by omega,hz⟩,Int.toNat_natCast,h]
theorem chkR_1 {m:Mesh} (h:m.check ≠ 0):chkR m = m.check:=by unfold chkR;rw [if_pos h]
theorem chkR_2 {m:Mesh} (h:m.check = 0) (h2:m.closed = false):chkR m = 12:=by unfold chkR;rw [if_neg (by simpa using h),if_pos h2]
theorem chkR_3 {m:Mesh} (h:m.check = 0) (h2:m.closed = true) (h3:cohB m.tris = false):chkR m = 13:=by unfold chkR;rw [if_neg (by simpa using h),if_neg (by rw [h2];simp),if_pos h3]
theorem chkR_4 {m:Mesh} (h:m.check = 0) (h2:m.closed = true) (h3:cohB m.tris = true):chkR m = if m.tris.any m.deg = true then 1 else if m.inv = true then 1 else 0:=by
 unfold chkR;rw [if_neg (by simpa using h),if_neg (by rw [h2];simp),if_neg (by rw [h3];simp)]
theorem coh_cohB {m:Mesh} (h:m.check = 0):m.coh = cohB m.tris:=by unfold Mesh.coh;rw [h];simp
section
variable {P:Program} (hm:P.follows .mixedOrders = true)
include hm
set_option maxRecDepth 20000 in
set_option maxHeartbeats 8000000 in
theorem repair_inverted_ok {f fs fv:FuncId} (hf:FnOk P f (repair_inverted.c fs fv) repair_inverted.r repair_inverted.n) (hs:ShellsC P fs) (hv:VolC P fv):InvC P f:=by
 intro m hz
 obtain⟨z1,z2,z3,z4⟩:=Mesh.check_zero.1 hz
 have hok:=shells_ok hz
 have hs1:=hs m
 unfold Mesh.inv
 generalize m.shells = shs at *
 generalize hp:(fun sh=>decide (volL m.verts (partOf m.tris sh) < 0)) = p
 generalize hB:shs.any p = B
 refine PureC.is (pure_of hm hf (Nat.le_of_ble_eq_true rfl) ?_) rfl
 unfold repair_inverted.c
 simp [go_sem,Mesh.enc,Mesh.cs,vsV,tsV]
 refine ACall_is hs1 ?_
 simp [go_sem,lsV]
 have hsv:∀ (n:Nat) (a:V3),List.map (V.sh1 n) a.cs = a.cs:=fun n a=>by simp [vcs,V.sh1,V.sh0]
 have hst:∀ (n:Nat) (a:T3),List.map (V.sh1 n) a.cs = a.cs:=fun n a=>by simp [tcs,V.sh1,V.sh0]
 refine AS_loop (α:=Nat) (fun k=>k ≤ shs.length∧NoneTo p shs k)
  (fun k=>⟨[(1,.p 0 1 0 0),(9,lsV shs),(10,.i .i64 shs.length),(11,.i .i64 k)],
   [.arr 1 2 [m.cs]]⟩)
  (fun k=>shs.length - k) 0 ⟨Nat.zero_le _,NoneTo.zero _ _⟩ ?_ ?_
 ·simp [go_sem,lsV,Mesh.cs,vsV,tsV,v3_cl,t3c_cl,hsv,hst]
 ·rintro k ⟨hk,hno⟩
  by_cases hkl:k = shs.length
  ·subst hkl
   obtain rfl:=hB.symm.trans hno.all
   simp [go_sem,lsV,repair_inverted.r]
  ·have hlt:k < shs.length:=by omega
   have hnum:=hok.num
   have hq:shs[k]? = some shs[k]:=List.getElem?_eq_getElem hlt
   have hmw:shs[k] ∈ shs:=List.getElem_mem _
   generalize shs[k] = sh at hq hmw
   obtain⟨_,hq'⟩:=List.getElem?_eq_some_iff.1 hq
   have hshl:=hok.len sh hmw
   have hshm:=hok.mem sh hmw
   simp [go_sem,lsV,hlt,hq,hq',Mesh.cs,vsV,tsV,isV]
   refine AS_loopG [.c 1 0 1 3] (α:=Nat) (fun j=>j ≤ sh.length)
    (fun j=>⟨[(1,.p 0 1 0 0),(4,isV sh),(5,.p 1 1 0 0),(9,lsV shs),(10,.i .i64 shs.length),(11,.i .i64 k),(18,isV sh),(19,.i .i64 sh.length),(20,.i .i64 j)],
     [.arr 1 2 [m.cs],.arr 1 2 [[vsV m.verts,.own 2 (j + 1) 0 j]],.arr (j + 1) 3 ((partOf m.tris (sh.take j)).map T3.cs)]⟩)
    (fun j=>sh.length - j) 0 (Nat.zero_le _) ?_ ?_
   ·simp [go_sem,lsV,isV,partOf,Mesh.cs,vsV,tsV,v3_cl,t3c_cl]
   ·intro j hj
    by_cases hjl:j = sh.length
    ·subst hjl
     rw [List.take_length]
     have hpl:=partOf_len m.tris sh
     have hvol:=hv ⟨m.verts,partOf m.tris sh⟩
     have hve:(Mesh.mk m.verts (partOf m.tris sh)).vol6 = volL m.verts (partOf m.tris sh):=by unfold Mesh.vol6;rw [if_pos (part_check hz hshl hshm)]
     rw [hve] at hvol
     have hps:p sh = decide (volL m.verts (partOf m.tris sh) < 0):=by rw [← hp]
     generalize partOf m.tris sh = PT at *
     have htkp:List.take sh.length (PT.map T3.cs) = PT.map T3.cs:=List.take_of_length_le (by simp;omega)
     simp [go_sem,lsV,isV]
     refine ACall_frz (vs:=[(Mesh.mk m.verts PT).enc]) ?_ hvol ?_
     ·simp [go_sem,frzAll,frz,frz0,Mesh.enc,Mesh.cs,vsV,tsV,tcs_isD,htkp,hpl]
     ·by_cases hneg:volL m.verts PT < 0
      ·have ha:shs.any p = true:=any_hit p hq (by rw [hps];simpa using hneg)
       obtain rfl:=hB.symm.trans ha
       simp (disch:=omega) [go_sem,vsV,tsV,hneg,repair_inverted.r]
      ·have ha:=take_any p hq hno (by rw [hps];simpa using hneg)
       simp (disch:=omega) [go_sem,vsV,tsV,hneg,wrap64_small]
       refine⟨k + 1,⟨by omega,ha⟩,by omega,?_⟩
       simp (disch:=omega) [go_sem,lsV,Mesh.cs,vsV,tsV,v3_cl,t3c_cl,wrap64_small]
    ·have hjlt:j < sh.length:=by omega
     have hq2:sh[j]? = some sh[j]:=List.getElem?_eq_getElem hjlt
     have hqm:sh[j] ∈ sh:=List.getElem_mem _
     have hpj:=fun v (h:sh[j]? = some v)=>partOf_succ (ts:=m.tris) h
     generalize sh[j] = v at hq2 hqm
     have hpj:=hpj v hq2
     obtain⟨_,hq2'⟩:=List.getElem?_eq_some_iff.1 hq2
     obtain⟨v0,v1⟩:=hshm v hqm
     have v2:v.toNat < m.tris.length:=by omega
     have ht:=tAt_get v2
     have hpl:=partOf_len m.tris (sh.take j)
     rw [List.length_take,Nat.min_eq_left (by omega)] at hpl
     generalize tAt m.tris v.toNat = t at ht hpj
     obtain⟨_,ht'⟩:=List.getElem?_eq_some_iff.1 ht
     generalize hPT:partOf m.tris (sh.take j) = PT at *
     have htkp:List.take j (PT.map T3.cs) = PT.map T3.cs:=List.take_of_length_le (by simp;omega)
     simp (disch:=omega) [go_sem,lsV,isV,Mesh.cs,vsV,tsV,hjlt,hq2,hq2',v0,v1,v2,ht,ht',tcs,htkp,hpl,wrap64_small]
     refine⟨⟨by omega,by omega⟩,j + 1,by omega,by omega,?_⟩
     rw [hpj]
     exact⟨by omega,rfl,by rw [List.map_append];rfl⟩
set_option maxRecDepth 20000 in
set_option maxHeartbeats 8000000 in
theorem repair_Check_ok {f fc fl fh fd fi:FuncId} (hf:FnOk P f (repair_Check.c fc fl fh fd fi) repair_Check.r repair_Check.n) (hc:CheckC P fc) (hl:ClosedC P fl) (hh:CoherentC P fh) (hd:DegC P fd) (hi:InvC P fi):ChkC P f:=by
 intro m
 have hl1:=hl m
 have hh1:=hh m
 by_cases hz:m.check = 0
 case neg =>
  rw [chkR_1 hz]
  refine PureC.is (pure_of hm hf (Nat.le_of_ble_eq_true rfl) ?_) rfl
  unfold repair_Check.c
  simp [go_sem,Mesh.enc,Mesh.cs]
  refine ACall_is (hc m) ?_
  simp [go_sem,hz,repair_Check.r]
 obtain⟨z1,z2,z3,z4⟩:=Mesh.check_zero.1 hz
 rw [coh_cohB hz] at hh1
 by_cases hcl:m.closed = false
 case pos =>
  rw [chkR_2 hz hcl]
  rw [hcl] at hl1
  refine PureC.is (pure_of hm hf (Nat.le_of_ble_eq_true rfl) ?_) rfl
  unfold repair_Check.c
  simp [go_sem,Mesh.enc,Mesh.cs]
  refine ACall_is (hc m) ?_
  simp [go_sem,hz]
  refine ACall_is hl1 ?_
  simp [go_sem,repair_Check.r]
 have hcl':m.closed = true:=by simpa using hcl
 rw [hcl'] at hl1
 by_cases hco:cohB m.tris = false
 case pos =>
  rw [chkR_3 hz hcl' hco]
  rw [hco] at hh1
  refine PureC.is (pure_of hm hf (Nat.le_of_ble_eq_true rfl) ?_) rfl
  unfold repair_Check.c
  simp [go_sem,Mesh.enc,Mesh.cs]
  refine ACall_is (hc m) ?_
  simp [go_sem,hz]
  refine ACall_is hl1 ?_
  simp [go_sem]
  refine ACall_is hh1 ?_
  simp [go_sem,repair_Check.r]
 have hco':cohB m.tris = true:=by simpa using hco
 rw [hco'] at hh1
 rw [chkR_4 hz hcl' hco']
 generalize hA:m.tris.any m.deg = A
 refine PureC.is (pure_of hm hf (Nat.le_of_ble_eq_true rfl) ?_) rfl
 unfold repair_Check.c
 simp [go_sem,Mesh.enc,Mesh.cs,vsV,tsV]
 refine ACall_is (hc m) ?_
 simp [go_sem,hz]
 refine ACall_is hl1 ?_
 simp [go_sem]
 refine ACall_is hh1 ?_
 have hsv:∀ (n:Nat) (a:V3),List.map (V.sh1 n) a.cs = a.cs:=fun n a=>by simp [vcs,V.sh1,V.sh0]
 have hst:∀ (n:Nat) (a:T3),List.map (V.sh1 n) a.cs = a.cs:=fun n a=>by simp [tcs,V.sh1,V.sh0]
 simp [go_sem]
 refine AS_loop (α:=Nat) (fun k=>k ≤ m.tris.length∧NoneTo m.deg m.tris k)
  (fun k=>⟨[(1,.p 0 1 0 0),(18,.i .i64 m.tris.length),(19,.i .i64 k)],[.arr 1 2 [m.cs]]⟩)
  (fun k=>m.tris.length - k) 0 ⟨Nat.zero_le _,NoneTo.zero _ _⟩ ?_ ?_
 ·simp [go_sem,Mesh.cs,vsV,tsV,v3_cl,t3c_cl,hsv,hst]
 ·rintro k ⟨hk,hno⟩
  by_cases hkl:k = m.tris.length
  ·subst hkl
   obtain rfl:=hA.symm.trans hno.all
   have hi1:=hi m hz
   simp [go_sem,Mesh.cs,vsV,tsV]
   refine ACall_is hi1 ?_
   cases hin:m.inv <;> simp [go_sem,repair_Check.r]
  ·have hlt:k < m.tris.length:=by omega
   have hq:=tAt_get hlt
   have hdk:=hd m (k:Int)
   rw [degI_at hz hq] at hdk
   simp [go_sem,hlt,Mesh.cs,vsV,tsV]
   refine ACall_is hdk ?_
   cases hdg:m.deg (tAt m.tris k) with
   | true =>
     have ha:m.tris.any m.deg = true:=any_hit _ hq hdg
     obtain rfl:=hA.symm.trans ha
     simp [go_sem,repair_Check.r]
   | false =>
     have ha:=take_any _ hq hno hdg
     simp (disch:=omega) [go_sem,wrap64_small]
     refine⟨k + 1,⟨by omega,ha⟩,by omega,?_⟩
     simp [go_sem,Mesh.cs,vsV,tsV,v3_cl,t3c_cl]
end
end Go.Abs
set_option linter.unusedVariables false
set_option linter.unusedSimpArgs false
namespace Go.Abs
def Rep.cs (r:Rep):List V:=[.i .i64 r.me,.i .i64 r.de,.i .i64 r.du,.i .i64 r.fl,.i .i64 r.ho,.i .i64 r.iv,.i .i64 r.sh]
def jobO (m:Mesh) (r:Rep):O:=.arr 1 9 [m.cs ++ r.cs]
def JobC (P:Program) (f:FuncId) (ok:Mesh→Rep→Prop) (g:Mesh→Rep→Mesh × Rep × Int):Prop:=∀ (h:List O) (id:Nat) (m:Mesh) (r:Rep),ok m r→h[id]? = some (jobO m r) →
 ACall P f [.p id 1 0 0] h (fun r' h'=>r' = .i .i64 (g m r).2.2∧h' = h.set id (jobO (g m r).1 (g m r).2.1))
theorem app_getL {h l:List O} {id:Nat} (hid:id < h.length):(h ++ l)[id]? = h[id]?:=List.getElem?_append_left hid
theorem app_setL {h l:List O} {id:Nat} (hid:id < h.length) (o:O):(h ++ l).set id o = h.set id o ++ l:=List.set_append_left _ _ hid
theorem app_get_s (h l:List O) (id:Nat) (o:O):(h.set id o ++ l)[h.length]? = l[0]?:=by
 have:=app_get_0 (h.set id o) l
 rwa [List.length_set] at this
theorem app_set_s (h l:List O) (id:Nat) (o o':O):(h.set id o ++ l).set h.length o' = h.set id o ++ l.set 0 o':=by
 have:=app_set_0 (h.set id o) l o'
 rwa [List.length_set] at this
theorem jobO_cl (m:Mesh) (r:Rep) (n:Nat):(jobO m r).cl n:=by
 simp [jobO,O.cl,Mesh.cs,Rep.cs,vsV,tsV,V.cl,V.cl1,V.cl0,vcs,tcs]
theorem job_done {h:List O} {id:Nat} {m m':Mesh} {r r':Rep} {l:List O} {e:Int} (hcl:∀ n,h.length ≤ n→∀ o ∈ h,o.cl n) :
  WeakH (h.set id (jobO m r)).length (h.set id (jobO m r) ++ l) (h.set id (jobO m r)):=by
 have:=WeakH_app (n:=(h.set id (jobO m r)).length) (a:=l) (b:=[]) (h:=h.set id (jobO m r)) (fun o ho=>by
  rcases List.mem_or_eq_of_mem_set ho with ho | rfl
  ·exact hcl _ (by rw [List.length_set];exact Nat.le_refl _) o ho
  ·exact jobO_cl _ _ _) (by cases l <;> trivial)
 rwa [List.append_nil] at this
theorem weldR_num (m:Mesh):0 ≤ (weldR m).2.1∧(weldR m).2.1 ≤ 4096:=by
 unfold weldR
 by_cases h:m.check = 0
 ·rw [if_pos h]
  have h1:=wverts_len h
  have h2:=(Mesh.check_zero.1 h).1
  simp only [];omega
 ·rw [if_neg h];simp
section
variable {P:Program} (hm:P.follows .mixedOrders = true)
include hm
set_option maxHeartbeats 4000000 in
theorem repair_job_orient_ok {f fo:FuncId} (hf:FnOk P f (repair_job_orient.c fo) repair_job_orient.r repair_job_orient.n) (ho:OrientC P fo) :
  JobC P f (fun _ _=>True) (fun m r=>((oriR m).1,{ r with fl:=(oriR m).2.1 },(oriR m).2.2)):=by
 intro h id m r _ hid
 refine ACall_closed fun hcl=>?_
 obtain⟨hlt,hid'⟩:=List.getElem?_eq_some_iff.1 hid
 refine call_intro hm hf (Nat.le_of_ble_eq_true rfl) ?_
 unfold repair_job_orient.c
 generalize hK:DoneA h.length repair_job_orient.r _ = K
 have ho1:=ho m
 have hjd:=fun m' r' l=>job_done (id:=id) (m:=m') (r:=r') (m':=m') (r':=r') (e:=0) (l:=l) hcl
 generalize hq:oriR m = q at ho1
 obtain⟨a,b,c⟩:=q
 simp only [jobO,Mesh.cs,Rep.cs] at hid hid' hjd
 simp [go_sem,hid,hid',hlt,app_get_r,app_get_0,app_set_r,app_set_0,app_getL hlt,app_setL hlt]
 refine ACall_is ho1 ?_
 simp [go_sem,mieV,Mesh.enc,Mesh.cs,hid,hid',hlt,app_get_r,app_get_0,app_set_r,app_set_0,app_getL hlt,app_setL hlt,app_get_s,app_set_s]
 rw [← hK,DoneA_r]
 refine⟨[.i .i64 c],h.set id (jobO a { r with fl:=b }),?_,rfl,?_,?_,?_,hjd a { r with fl:=b } _,by simp [hq,tupV],by simp [hq]⟩
 ·simp [repair_job_orient.r,readR,go_sem]
 ·simp [V.cl,V.cl1,V.cl0]
 ·simp
 ·simp
set_option maxHeartbeats 4000000 in
theorem repair_job_fill_ok {f fo:FuncId} (hf:FnOk P f (repair_job_fill.c fo) repair_job_fill.r repair_job_fill.n) (ho:FillC P fo) :
  JobC P f (fun _ _=>True) (fun m r=>((fillR m).1,{ r with ho:=(fillR m).2.1 },(fillR m).2.2)):=by
 intro h id m r _ hid
 refine ACall_closed fun hcl=>?_
 obtain⟨hlt,hid'⟩:=List.getElem?_eq_some_iff.1 hid
 refine call_intro hm hf (Nat.le_of_ble_eq_true rfl) ?_
 unfold repair_job_fill.c
 generalize hK:DoneA h.length repair_job_fill.r _ = K
 have ho1:=ho m
 have hjd:=fun m' r' l=>job_done (id:=id) (m:=m') (r:=r') (m':=m') (r':=r') (e:=0) (l:=l) hcl
 generalize hq:fillR m = q at ho1
 obtain⟨a,b,c⟩:=q
 simp only [jobO,Mesh.cs,Rep.cs] at hid hid' hjd
 simp [go_sem,hid,hid',hlt,app_get_r,app_get_0,app_set_r,app_set_0,app_getL hlt,app_setL hlt]
 refine ACall_is ho1 ?_
 simp [go_sem,fillV,Mesh.enc,Mesh.cs,hid,hid',hlt,app_get_r,app_get_0,app_set_r,app_set_0,app_getL hlt,app_setL hlt,app_get_s,app_set_s]
 rw [← hK,DoneA_r]
 refine⟨[.i .i64 c],h.set id (jobO a { r with ho:=b }),?_,rfl,?_,?_,?_,hjd a { r with ho:=b } _,by simp [hq,tupV],by simp [hq]⟩
 ·simp [repair_job_fill.r,readR,go_sem]
 ·simp [V.cl,V.cl1,V.cl0]
 ·simp
 ·simp
set_option maxHeartbeats 4000000 in
theorem repair_job_outward_ok {f fo:FuncId} (hf:FnOk P f (repair_job_outward.c fo) repair_job_outward.r repair_job_outward.n) (ho:OutwardC P fo) :
  JobC P f (fun _ _=>True) (fun m r=>((outR m).1,{ r with iv:=(outR m).2.1 },(outR m).2.2)):=by
 intro h id m r _ hid
 refine ACall_closed fun hcl=>?_
 obtain⟨hlt,hid'⟩:=List.getElem?_eq_some_iff.1 hid
 refine call_intro hm hf (Nat.le_of_ble_eq_true rfl) ?_
 unfold repair_job_outward.c
 generalize hK:DoneA h.length repair_job_outward.r _ = K
 have ho1:=ho m
 have hjd:=fun m' r' l=>job_done (id:=id) (m:=m') (r:=r') (m':=m') (r':=r') (e:=0) (l:=l) hcl
 generalize hq:outR m = q at ho1
 obtain⟨a,b,c⟩:=q
 simp only [jobO,Mesh.cs,Rep.cs] at hid hid' hjd
 simp [go_sem,hid,hid',hlt,app_get_r,app_get_0,app_set_r,app_set_0,app_getL hlt,app_setL hlt]
 refine ACall_is ho1 ?_
 simp [go_sem,mieV,Mesh.enc,Mesh.cs,hid,hid',hlt,app_get_r,app_get_0,app_set_r,app_set_0,app_getL hlt,app_setL hlt,app_get_s,app_set_s]
 rw [← hK,DoneA_r]
 refine⟨[.i .i64 c],h.set id (jobO a { r with iv:=b }),?_,rfl,?_,?_,?_,hjd a { r with iv:=b } _,by simp [hq,tupV],by simp [hq]⟩
 ·simp [repair_job_outward.r,readR,go_sem]
 ·simp [V.cl,V.cl1,V.cl0]
 ·simp
 ·simp
set_option maxHeartbeats 4000000 in
theorem repair_job_clean_ok {f fo:FuncId} (hf:FnOk P f (repair_job_clean.c fo) repair_job_clean.r repair_job_clean.n) (ho:CleanC P fo) :
  JobC P f (fun _ _=>True) (fun m r=>((cleanR m).1,{ r with de:=(cleanR m).2.1,du:=(cleanR m).2.2.1 },(cleanR m).2.2.2)):=by
 intro h id m r _ hid
 refine ACall_closed fun hcl=>?_
 obtain⟨hlt,hid'⟩:=List.getElem?_eq_some_iff.1 hid
 refine call_intro hm hf (Nat.le_of_ble_eq_true rfl) ?_
 unfold repair_job_clean.c
 generalize hK:DoneA h.length repair_job_clean.r _ = K
 have ho1:=ho m
 have hjd:=fun m' r' l=>job_done (id:=id) (m:=m') (r:=r') (m':=m') (r':=r') (e:=0) (l:=l) hcl
 generalize hq:cleanR m = q at ho1
 obtain⟨a,b,b2,c⟩:=q
 simp only [jobO,Mesh.cs,Rep.cs] at hid hid' hjd
 simp [go_sem,hid,hid',hlt,app_get_r,app_get_0,app_set_r,app_set_0,app_getL hlt,app_setL hlt]
 refine ACall_is ho1 ?_
 simp [go_sem,cleanV,Mesh.enc,Mesh.cs,hid,hid',hlt,app_get_r,app_get_0,app_set_r,app_set_0,app_getL hlt,app_setL hlt,app_get_s,app_set_s]
 rw [← hK,DoneA_r]
 refine⟨[.i .i64 c],h.set id (jobO a { r with de:=b,du:=b2 }),?_,rfl,?_,?_,?_,hjd a { r with de:=b,du:=b2 } _,by simp [hq,tupV],by simp [hq]⟩
 ·simp [repair_job_clean.r,readR,go_sem]
 ·simp [V.cl,V.cl1,V.cl0]
 ·simp
 ·simp
set_option maxHeartbeats 4000000 in
theorem repair_job_weld_ok {f fo:FuncId} (hf:FnOk P f (repair_job_weld.c fo) repair_job_weld.r repair_job_weld.n) (ho:WeldC P fo) :
  JobC P f (fun _ r=>0 ≤ r.me∧r.me ≤ 1000000) (fun m r=>((weldR m).1,{ r with me:=r.me + (weldR m).2.1 },(weldR m).2.2)):=by
 intro h id m r hok hid
 refine ACall_closed fun hcl=>?_
 obtain⟨hlt,hid'⟩:=List.getElem?_eq_some_iff.1 hid
 refine call_intro hm hf (Nat.le_of_ble_eq_true rfl) ?_
 unfold repair_job_weld.c
 generalize hK:DoneA h.length repair_job_weld.r _ = K
 have ho1:=ho m
 have hjd:=fun m' r' l=>job_done (id:=id) (m:=m') (r:=r') (m':=m') (r':=r') (e:=0) (l:=l) hcl
 have hbd:=weldR_num m
 generalize hq:weldR m = q at ho1 hbd
 obtain⟨a,b,c⟩:=q
 have hw64:IntKind.i64.wrap (r.me + b) = r.me + b:=wrap64_small (by simp only [] at hbd;omega) (by simp only [] at hbd;omega)
 simp only [jobO,Mesh.cs,Rep.cs] at hid hid' hjd
 simp [go_sem,hid,hid',hlt,app_get_r,app_get_0,app_set_r,app_set_0,app_getL hlt,app_setL hlt]
 refine ACall_is ho1 ?_
 simp [go_sem,weldV,hw64,Mesh.enc,Mesh.cs,hid,hid',hlt,app_get_r,app_get_0,app_set_r,app_set_0,app_getL hlt,app_setL hlt,app_get_s,app_set_s]
 rw [← hK,DoneA_r]
 refine⟨[.i .i64 c],h.set id (jobO a { r with me:=r.me + b }),?_,rfl,?_,?_,?_,hjd a { r with me:=r.me + b } _,by simp [hq,tupV],by simp [hq]⟩
 ·simp [repair_job_weld.r,readR,go_sem]
 ·simp [V.cl,V.cl1,V.cl0]
 ·simp
 ·simp
set_option maxHeartbeats 4000000 in
theorem repair_job_check_ok {f fs fc:FuncId} (hf:FnOk P f (repair_job_check.c fs fc) repair_job_check.r repair_job_check.n) (hs:ShellsC P fs) (hc:ChkC P fc) :
  JobC P f (fun _ _=>True) (fun m r=>(m,{ r with sh:=(m.shells.length:Int) },chkR m)):=by
 intro h id m r _ hid
 obtain⟨hlt,hid'⟩:=List.getElem?_eq_some_iff.1 hid
 refine call_keep hm hf (Nat.le_of_ble_eq_true rfl) ?_
 unfold repair_job_check.c
 have hs1:=hs m
 have hc1:=hc m
 simp only [jobO,Mesh.cs,Rep.cs] at hid hid'
 simp [go_sem,hid,hid',hlt]
 refine ACall_is hs1 ?_
 simp [go_sem,lsV,hid,hid',hlt]
 refine ACall_is hc1 ?_
 simp [go_sem,repair_job_check.r,jobO,Mesh.cs,Rep.cs]
end
end Go.Abs
set_option linter.unusedVariables false
set_option linter.unusedSimpArgs false
namespace Go.Abs
def repV (p:Mesh × Rep × Int):V:=.t [p.1.enc,.a p.2.1.cs,.i .i64 p.2.2]
def RepC (P:Program) (f:FuncId):Prop:=∀ m:Mesh,CallIs P f [m.enc] (repV (repR m))
theorem repV_no (e:Int):Le (.t [.a [.nil,.nil],.a Rep.zero.cs,.i .i64 e]) (repV (noMesh,Rep.zero,e)) :=
 .inr ⟨_,_,rfl,rfl,.inr ⟨_,_,rfl,rfl,Le0.nil 3,Le0.nil 3,trivial⟩,Le1.refl _,Le1.refl _,trivial⟩
end Go.Abs
