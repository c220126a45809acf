/- Part of the library on which the proof stands: an abstract machine, its values and its soundness against the model; or what functions of the program do to such values. -/
import Derived.Test.YtcdjgldeiaiaoaaGreatGoRpc
import Derived.Test.YtcdjgldeiaiaoaaGreatGoOz
set_option linter.unusedVariables false
set_option linter.unusedSimpArgs false
namespace Go.Abs
def InvC (P:Program) (f:FuncId):Prop:=∀ m:Mesh,m.check = 0→CallIs P f [m.enc] (.b m.inv)
def ChkC (P:Program) (f:FuncId):Prop:=∀ m:Mesh,CallIs P f [m.enc] (.i .i64 (chkR m))
def NoneTo {α:Type} (p:α→Bool) (l:List α) (k:Nat):Prop:=(l.take k).any p = false
theorem NoneTo.zero {α:Type} (p:α→Bool) (l:List α):NoneTo p l 0:=by simp [NoneTo]
theorem NoneTo.all {α:Type} {p:α→Bool} {l:List α} (h:NoneTo p l l.length):l.any p = false:=by unfold NoneTo at h;rwa [List.take_length] at h
theorem take_any {α:Type} (p:α→Bool) {l:List α} {k:Nat} {a:α} (h:l[k]? = some a) (hn:NoneTo p l k) (ha:p a = false):NoneTo p l (k + 1):=by
 unfold NoneTo at *
 rw [take_succ_get h,List.any_append,hn];simp [ha]
theorem any_hit {α:Type} (p:α→Bool) {l:List α} {k:Nat} {a:α} (h:l[k]? = some a) (ha:p a = true):l.any p = true :=
 List.any_eq_true.2 ⟨a,List.mem_of_getElem? h,ha⟩
theorem degI_at {m:Mesh} (hz:m.check = 0) {k:Nat} {t:T3} (h:m.tris[k]? = some t):m.degI (k:Int) = m.deg t:=by
 have hl:=(List.getElem?_eq_some_iff.1 h).1
 unfold Mesh.degI
 rw [if_pos ⟨by omega,by omega,hz⟩,Int.toNat_natCast,h]
theorem chkR_1 {m:Mesh} (h:m.check ≠ 0):chkR m = m.check:=by unfold chkR;rw [if_pos h]
theorem chkR_2 {m:Mesh} (h:m.check = 0) (h2:m.closed = false):chkR m = 12:=by unfold chkR;rw [if_neg (by simpa using h),if_pos h2]
theorem chkR_3 {m:Mesh} (h:m.check = 0) (h2:m.closed = true) (h3:cohB m.tris = false):chkR m = 13:=by unfold chkR;rw [if_neg (by simpa using h),if_neg (by rw [h2];simp),if_pos h3]
theorem chkR_4 {m:Mesh} (h:m.check = 0) (h2:m.closed = true) (h3:cohB m.tris = true):chkR m = if m.tris.any m.deg = true then 1 else if m.inv = true then 1 else 0:=by
 unfold chkR;rw [if_neg (by simpa using h),if_neg (by rw [h2];simp),if_neg (by rw [h3];simp)]
theorem coh_cohB {m:Mesh} (h:m.check = 0):m.coh = cohB m.tris:=by unfold Mesh.coh;rw [h];simp
section
variable {P:Program} (hm:P.follows .mixedOrders = true)
include hm
set_option maxRecDepth 20000 in
set_option maxHeartbeats 8000000 in
theorem repair_inverted_ok {f fs fv:FuncId} (hf:FnOk P f (repair_inverted.c fs fv) repair_inverted.r repair_inverted.n) (hs:ShellsC P fs) (hv:VolC P fv):InvC P f:=by
 intro m hz
 obtain⟨z1,z2,z3,z4⟩:=Mesh.check_zero.1 hz
 have hok:=shells_ok hz
 have hs1:=hs m
 unfold Mesh.inv
 generalize m.shells = shs at *
 generalize hp:(fun sh=>decide (volL m.verts (partOf m.tris sh) < 0)) = p
 generalize hB:shs.any p = B
 refine PureC.is (pure_of hm hf (Nat.le_of_ble_eq_true rfl) ?_) rfl
 unfold repair_inverted.c
 simp [go_sem,Mesh.enc,Mesh.cs,vsV,tsV]
 refine ACall_is hs1 ?_
 simp [go_sem,lsV]
 have hsv:∀ (n:Nat) (a:V3),List.map (V.sh1 n) a.cs = a.cs:=fun n a=>by simp [vcs,V.sh1,V.sh0]
 have hst:∀ (n:Nat) (a:T3),List.map (V.sh1 n) a.cs = a.cs:=fun n a=>by simp [tcs,V.sh1,V.sh0]
 refine AS_loop (α:=Nat) (fun k=>k ≤ shs.length∧NoneTo p shs k)
  (fun k=>⟨[(1,.p 0 1 0 0),(9,lsV shs),(10,.i .i64 shs.length),(11,.i .i64 k)],
   [.arr 1 2 [m.cs]]⟩)
  (fun k=>shs.length - k) 0 ⟨Nat.zero_le _,NoneTo.zero _ _⟩ ?_ ?_
 ·simp [go_sem,lsV,Mesh.cs,vsV,tsV,v3_cl,t3c_cl,hsv,hst]
 ·rintro k ⟨hk,hno⟩
  by_cases hkl:k = shs.length
  ·subst hkl
   obtain rfl:=hB.symm.trans hno.all
   simp [go_sem,lsV,repair_inverted.r]
  ·have hlt:k < shs.length:=by omega
   have hnum:=hok.num
   have hq:shs[k]? = some shs[k]:=List.getElem?_eq_getElem hlt
   have hmw:shs[k] ∈ shs:=List.getElem_mem _
   generalize shs[k] = sh at hq hmw
   obtain⟨_,hq'⟩:=List.getElem?_eq_some_iff.1 hq
   have hshl:=hok.len sh hmw
   have hshm:=hok.mem sh hmw
   simp [go_sem,lsV,hlt,hq,hq',Mesh.cs,vsV,tsV,isV]
   refine AS_loopG [.c 1 0 1 3] (α:=Nat) (fun j=>j ≤ sh.length)
    (fun j=>⟨[(1,.p 0 1 0 0),(4,isV sh),(5,.p 1 1 0 0),(9,lsV shs),(10,.i .i64 shs.length),(11,.i .i64 k),(18,isV sh),(19,.i .i64 sh.length),(20,.i .i64 j)],
     [.arr 1 2 [m.cs],.arr 1 2 [[vsV m.verts,.own 2 (j + 1) 0 j]],.arr (j + 1) 3 ((partOf m.tris (sh.take j)).map T3.cs)]⟩)
    (fun j=>sh.length - j) 0 (Nat.zero_le _) ?_ ?_
   ·simp [go_sem,lsV,isV,partOf,Mesh.cs,vsV,tsV,v3_cl,t3c_cl]
   ·intro j hj
    by_cases hjl:j = sh.length
    ·subst hjl
     rw [List.take_length]
     have hpl:=partOf_len m.tris sh
     have hvol:=hv ⟨m.verts,partOf m.tris sh⟩
     have hve:(Mesh.mk m.verts (partOf m.tris sh)).vol6 = volL m.verts (partOf m.tris sh):=by unfold Mesh.vol6;rw [if_pos (part_check hz hshl hshm)]
     rw [hve] at hvol
     have hps:p sh = decide (volL m.verts (partOf m.tris sh) < 0):=by rw [← hp]
     generalize partOf m.tris sh = PT at *
     have htkp:List.take sh.length (PT.map T3.cs) = PT.map T3.cs:=List.take_of_length_le (by simp;omega)
     simp [go_sem,lsV,isV]
     refine ACall_frz (vs:=[(Mesh.mk m.verts PT).enc]) ?_ hvol ?_
     ·simp [go_sem,frzAll,frz,frz0,Mesh.enc,Mesh.cs,vsV,tsV,tcs_isD,htkp,hpl]
     ·by_cases hneg:volL m.verts PT < 0
      ·have ha:shs.any p = true:=any_hit p hq (by rw [hps];simpa using hneg)
       obtain rfl:=hB.symm.trans ha
       simp (disch:=omega) [go_sem,vsV,tsV,hneg,repair_inverted.r]
      ·have ha:=take_any p hq hno (by rw [hps];simpa using hneg)
       simp (disch:=omega) [go_sem,vsV,tsV,hneg,wrap64_small]
       refine⟨k + 1,⟨by omega,ha⟩,by omega,?_⟩
       simp (disch:=omega) [go_sem,lsV,Mesh.cs,vsV,tsV,v3_cl,t3c_cl,wrap64_small]
    ·have hjlt:j < sh.length:=by omega
     have hq2:sh[j]? = some sh[j]:=List.getElem?_eq_getElem hjlt
     have hqm:sh[j] ∈ sh:=List.getElem_mem _
     have hpj:=fun v (h:sh[j]? = some v)=>partOf_succ (ts:=m.tris) h
     generalize sh[j] = v at hq2 hqm
     have hpj:=hpj v hq2
     obtain⟨_,hq2'⟩:=List.getElem?_eq_some_iff.1 hq2
     obtain⟨v0,v1⟩:=hshm v hqm
     have v2:v.toNat < m.tris.length:=by omega
     have ht:=tAt_get v2
     have hpl:=partOf_len m.tris (sh.take j)
     rw [List.length_take,Nat.min_eq_left (by omega)] at hpl
     generalize tAt m.tris v.toNat = t at ht hpj
     obtain⟨_,ht'⟩:=List.getElem?_eq_some_iff.1 ht
     generalize hPT:partOf m.tris (sh.take j) = PT at *
     have htkp:List.take j (PT.map T3.cs) = PT.map T3.cs:=List.take_of_length_le (by simp;omega)
     simp (disch:=omega) [go_sem,lsV,isV,Mesh.cs,vsV,tsV,hjlt,hq2,hq2',v0,v1,v2,ht,ht',tcs,htkp,hpl,wrap64_small]
     refine⟨⟨by omega,by omega⟩,j + 1,by omega,by omega,?_⟩
     rw [hpj]
     exact⟨by omega,rfl,by rw [List.map_append];rfl⟩
set_option maxRecDepth 20000 in
set_option maxHeartbeats 8000000 in
theorem repair_Check_ok {f fc fl fh fd fi:FuncId} (hf:FnOk P f (repair_Check.c fc fl fh fd fi) repair_Check.r repair_Check.n) (hc:CheckC P fc) (hl:ClosedC P fl) (hh:CoherentC P fh) (hd:DegC P fd) (hi:InvC P fi):ChkC P f:=by
 intro m
 have hl1:=hl m
 have hh1:=hh m
 by_cases hz:m.check = 0
 case neg =>
  rw [chkR_1 hz]
  refine PureC.is (pure_of hm hf (Nat.le_of_ble_eq_true rfl) ?_) rfl
  unfold repair_Check.c
  simp [go_sem,Mesh.enc,Mesh.cs]
  refine ACall_is (hc m) ?_
  simp [go_sem,hz,repair_Check.r]
 obtain⟨z1,z2,z3,z4⟩:=Mesh.check_zero.1 hz
 rw [coh_cohB hz] at hh1
 by_cases hcl:m.closed = false
 case pos =>
  rw [chkR_2 hz hcl]
  rw [hcl] at hl1
  refine PureC.is (pure_of hm hf (Nat.le_of_ble_eq_true rfl) ?_) rfl
  unfold repair_Check.c
  simp [go_sem,Mesh.enc,Mesh.cs]
  refine ACall_is (hc m) ?_
  simp [go_sem,hz]
  refine ACall_is hl1 ?_
  simp [go_sem,repair_Check.r]
 have hcl':m.closed = true:=by simpa using hcl
 rw [hcl'] at hl1
 by_cases hco:cohB m.tris = false
 case pos =>
  rw [chkR_3 hz hcl' hco]
  rw [hco] at hh1
  refine PureC.is (pure_of hm hf (Nat.le_of_ble_eq_true rfl) ?_) rfl
  unfold repair_Check.c
  simp [go_sem,Mesh.enc,Mesh.cs]
  refine ACall_is (hc m) ?_
  simp [go_sem,hz]
  refine ACall_is hl1 ?_
  simp [go_sem]
  refine ACall_is hh1 ?_
  simp [go_sem,repair_Check.r]
 have hco':cohB m.tris = true:=by simpa using hco
 rw [hco'] at hh1
 rw [chkR_4 hz hcl' hco']
 generalize hA:m.tris.any m.deg = A
 refine PureC.is (pure_of hm hf (Nat.le_of_ble_eq_true rfl) ?_) rfl
 unfold repair_Check.c
 simp [go_sem,Mesh.enc,Mesh.cs,vsV,tsV]
 refine ACall_is (hc m) ?_
 simp [go_sem,hz]
 refine ACall_is hl1 ?_
 simp [go_sem]
 refine ACall_is hh1 ?_
 have hsv:∀ (n:Nat) (a:V3),List.map (V.sh1 n) a.cs = a.cs:=fun n a=>by simp [vcs,V.sh1,V.sh0]
 have hst:∀ (n:Nat) (a:T3),List.map (V.sh1 n) a.cs = a.cs:=fun n a=>by simp [tcs,V.sh1,V.sh0]
 simp [go_sem]
 refine AS_loop (α:=Nat) (fun k=>k ≤ m.tris.length∧NoneTo m.deg m.tris k)
  (fun k=>⟨[(1,.p 0 1 0 0),(18,.i .i64 m.tris.length),(19,.i .i64 k)],[.arr 1 2 [m.cs]]⟩)
  (fun k=>m.tris.length - k) 0 ⟨Nat.zero_le _,NoneTo.zero _ _⟩ ?_ ?_
 ·simp [go_sem,Mesh.cs,vsV,tsV,v3_cl,t3c_cl,hsv,hst]
 ·rintro k ⟨hk,hno⟩
  by_cases hkl:k = m.tris.length
  ·subst hkl
   obtain rfl:=hA.symm.trans hno.all
   have hi1:=hi m hz
   simp [go_sem,Mesh.cs,vsV,tsV]
   refine ACall_is hi1 ?_
   cases hin:m.inv <;> simp [go_sem,repair_Check.r]
  ·have hlt:k < m.tris.length:=by omega
   have hq:=tAt_get hlt
   have hdk:=hd m (k:Int)
   rw [degI_at hz hq] at hdk
   simp [go_sem,hlt,Mesh.cs,vsV,tsV]
   refine ACall_is hdk ?_
   cases hdg:m.deg (tAt m.tris k) with
   | true =>
     have ha:m.tris.any m.deg = true:=any_hit _ hq hdg
     obtain rfl:=hA.symm.trans ha
     simp [go_sem,repair_Check.r]
   | false =>
     have ha:=take_any _ hq hno hdg
     simp (disch:=omega) [go_sem,wrap64_small]
     refine⟨k + 1,⟨by omega,ha⟩,by omega,?_⟩
     simp [go_sem,Mesh.cs,vsV,tsV,v3_cl,t3c_cl]
theorem ref14_part_ok {f:FuncId} (hf:FnOk P f ref14_part.c ref14_part.r ref14_part.n):PartC P f:=ref11_part_ok hm hf
set_option maxRecDepth 20000 in
set_option maxHeartbeats 8000000 in
theorem ref14_Check_ok {f fc fl fh fd fs fp fv:FuncId} (hf:FnOk P f (ref14_Check.c fc fl fh fd fs fp fv) ref14_Check.r ref14_Check.n) (hc:CheckC P fc) (hl:ClosedC P fl) (hh:CoherentC P fh) (hd:DegC P fd) (hs:ShellsC P fs) (hp:PartC P fp) (hv:VolC P fv):ChkC P f:=by
 intro m
 have hl1:=hl m
 have hh1:=hh m
 by_cases hz:m.check = 0
 case neg =>
  rw [chkR_1 hz]
  refine PureC.is (pure_of hm hf (Nat.le_of_ble_eq_true rfl) ?_) rfl
  unfold ref14_Check.c
  simp [go_sem,Mesh.enc,Mesh.cs]
  refine ACall_is (hc m) ?_
  simp [go_sem,hz,ref14_Check.r]
 obtain⟨z1,z2,z3,z4⟩:=Mesh.check_zero.1 hz
 rw [coh_cohB hz] at hh1
 by_cases hcl:m.closed = false
 case pos =>
  rw [chkR_2 hz hcl]
  rw [hcl] at hl1
  refine PureC.is (pure_of hm hf (Nat.le_of_ble_eq_true rfl) ?_) rfl
  unfold ref14_Check.c
  simp [go_sem,Mesh.enc,Mesh.cs]
  refine ACall_is (hc m) ?_
  simp [go_sem,hz]
  refine ACall_is hl1 ?_
  simp [go_sem,ref14_Check.r]
 have hcl':m.closed = true:=by simpa using hcl
 rw [hcl'] at hl1
 by_cases hco:cohB m.tris = false
 case pos =>
  rw [chkR_3 hz hcl' hco]
  rw [hco] at hh1
  refine PureC.is (pure_of hm hf (Nat.le_of_ble_eq_true rfl) ?_) rfl
  unfold ref14_Check.c
  simp [go_sem,Mesh.enc,Mesh.cs]
  refine ACall_is (hc m) ?_
  simp [go_sem,hz]
  refine ACall_is hl1 ?_
  simp [go_sem]
  refine ACall_is hh1 ?_
  simp [go_sem,ref14_Check.r]
 have hco':cohB m.tris = true:=by simpa using hco
 rw [hco'] at hh1
 rw [chkR_4 hz hcl' hco']
 have hok:=shells_ok hz
 have hs1:=hs m
 unfold Mesh.inv
 generalize m.shells = shs at *
 generalize hp':(fun sh=>decide (volL m.verts (partOf m.tris sh) < 0)) = p
 generalize hB:shs.any p = B
 generalize hA:m.tris.any m.deg = A
 refine PureC.is (pure_of hm hf (Nat.le_of_ble_eq_true rfl) ?_) rfl
 unfold ref14_Check.c
 simp [go_sem,Mesh.enc,Mesh.cs,vsV,tsV]
 refine ACall_is (hc m) ?_
 simp [go_sem,hz]
 refine ACall_is hl1 ?_
 simp [go_sem]
 refine ACall_is hh1 ?_
 have hsv:∀ (n:Nat) (a:V3),List.map (V.sh1 n) a.cs = a.cs:=fun n a=>by simp [vcs,V.sh1,V.sh0]
 have hst:∀ (n:Nat) (a:T3),List.map (V.sh1 n) a.cs = a.cs:=fun n a=>by simp [tcs,V.sh1,V.sh0]
 simp [go_sem]
 refine AS_loop (α:=Nat) (fun k=>k ≤ m.tris.length∧NoneTo m.deg m.tris k)
  (fun k=>⟨[(1,.p 0 1 0 0),(4,.i .i64 k)],[.arr 1 2 [m.cs]]⟩)
  (fun k=>m.tris.length - k) 0 ⟨Nat.zero_le _,NoneTo.zero _ _⟩ ?_ ?_
 ·simp [go_sem,Mesh.cs,vsV,tsV,v3_cl,t3c_cl,hsv,hst]
 ·rintro k ⟨hk,hno⟩
  by_cases hkl:k = m.tris.length
  ·subst hkl
   obtain rfl:=hA.symm.trans hno.all
   simp [go_sem,Mesh.cs,vsV,tsV]
   refine ACall_is hs1 ?_
   simp [go_sem,lsV]
   refine AS_loop (α:=Nat) (fun k=>k ≤ shs.length∧NoneTo p shs k)
    (fun k=>⟨[(1,.p 0 1 0 0),(5,lsV shs),(6,.i .i64 k)],[.arr 1 2 [m.cs]]⟩)
    (fun k=>shs.length - k) 0 ⟨Nat.zero_le _,NoneTo.zero _ _⟩ ?_ ?_
   ·simp [go_sem,lsV,Mesh.cs,vsV,tsV,v3_cl,t3c_cl,hsv,hst]
   ·rintro k ⟨hk,hno⟩
    by_cases hkl:k = shs.length
    ·subst hkl
     obtain rfl:=hB.symm.trans hno.all
     simp [go_sem,lsV,ref14_Check.r]
    ·have hlt:k < shs.length:=by omega
     have hnum:=hok.num
     have hq:shs[k]? = some shs[k]:=List.getElem?_eq_getElem hlt
     have hmw:shs[k] ∈ shs:=List.getElem_mem _
     generalize shs[k] = sh at hq hmw
     obtain⟨_,hq'⟩:=List.getElem?_eq_some_iff.1 hq
     have hshl:=hok.len sh hmw
     have hshm:=hok.mem sh hmw
     have hpt:=hp m sh (by omega) hshm
     have hvol:=hv ⟨m.verts,partOf m.tris sh⟩
     have hve:(Mesh.mk m.verts (partOf m.tris sh)).vol6 = volL m.verts (partOf m.tris sh):=by unfold Mesh.vol6;rw [if_pos (part_check hz hshl hshm)]
     rw [hve] at hvol
     have hps:p sh = decide (volL m.verts (partOf m.tris sh) < 0):=by rw [← hp']
     simp [go_sem,lsV,hlt,hq,hq',Mesh.cs,vsV,tsV,isV]
     refine DCall_is hpt ?_
     simp [go_sem]
     refine DCall_is hvol ?_
     by_cases hneg:volL m.verts (partOf m.tris sh) < 0
     ·have ha:shs.any p = true:=any_hit p hq (by rw [hps];simpa using hneg)
      obtain rfl:=hB.symm.trans ha
      simp (disch:=omega) [go_sem,hneg,ref14_Check.r]
     ·have ha:=take_any p hq hno (by rw [hps];simpa using hneg)
      simp (disch:=omega) [go_sem,hneg,wrap64_small]
      refine⟨k + 1,⟨by omega,ha⟩,by omega,?_⟩
      simp [go_sem,lsV,Mesh.cs,vsV,tsV,v3_cl,t3c_cl]
  ·have hlt:k < m.tris.length:=by omega
   have hq:=tAt_get hlt
   have hdk:=hd m (k:Int)
   rw [degI_at hz hq] at hdk
   simp [go_sem,hlt,Mesh.cs,vsV,tsV]
   refine ACall_is hdk ?_
   cases hdg:m.deg (tAt m.tris k) with
   | true =>
     have ha:m.tris.any m.deg = true:=any_hit _ hq hdg
     obtain rfl:=hA.symm.trans ha
     simp [go_sem,ref14_Check.r]
   | false =>
     have ha:=take_any _ hq hno hdg
     simp (disch:=omega) [go_sem,wrap64_small]
     refine⟨k + 1,⟨by omega,ha⟩,by omega,?_⟩
     simp [go_sem,Mesh.cs,vsV,tsV,v3_cl,t3c_cl]
end
end Go.Abs
set_option linter.unusedVariables false
set_option linter.unusedSimpArgs false
namespace Go.Abs
def Rep.cs (r:Rep):List V:=[.i .i64 r.me,.i .i64 r.de,.i .i64 r.du,.i .i64 r.fl,.i .i64 r.ho,.i .i64 r.iv,.i .i64 r.sh]
def jobO (m:Mesh) (r:Rep):O:=.arr 1 9 [m.cs ++ r.cs]
def JobC (P:Program) (f:FuncId) (ok:Mesh→Rep→Prop) (g:Mesh→Rep→Mesh × Rep × Int):Prop:=∀ (h:List O) (id:Nat) (m:Mesh) (r:Rep),ok m r→h[id]? = some (jobO m r) →
 ACall P f [.p id 1 0 0] h (fun r' h'=>r' = .i .i64 (g m r).2.2∧h' = h.set id (jobO (g m r).1 (g m r).2.1))
theorem app_getL {h l:List O} {id:Nat} (hid:id < h.length):(h ++ l)[id]? = h[id]?:=List.getElem?_append_left hid
theorem app_setL {h l:List O} {id:Nat} (hid:id < h.length) (o:O):(h ++ l).set id o = h.set id o ++ l:=List.set_append_left _ _ hid
theorem app_get_s (h l:List O) (id:Nat) (o:O):(h.set id o ++ l)[h.length]? = l[0]?:=by
 have:=app_get_0 (h.set id o) l
 rwa [List.length_set] at this
theorem app_set_s (h l:List O) (id:Nat) (o o':O):(h.set id o ++ l).set h.length o' = h.set id o ++ l.set 0 o':=by
 have:=app_set_0 (h.set id o) l o'
 rwa [List.length_set] at this
theorem jobO_cl (m:Mesh) (r:Rep) (n:Nat):(jobO m r).cl n:=by
 simp [jobO,O.cl,Mesh.cs,Rep.cs,vsV,tsV,V.cl,V.cl1,V.cl0,vcs,tcs]
theorem job_done {h:List O} {id:Nat} {m m':Mesh} {r r':Rep} {l:List O} {e:Int} (hcl:∀ n,h.length ≤ n→∀ o ∈ h,o.cl n) :
  WeakH (h.set id (jobO m r)).length (h.set id (jobO m r) ++ l) (h.set id (jobO m r)):=by
 have:=WeakH_app (n:=(h.set id (jobO m r)).length) (a:=l) (b:=[]) (h:=h.set id (jobO m r)) (fun o ho=>by
  rcases List.mem_or_eq_of_mem_set ho with ho | rfl
  ·exact hcl _ (by rw [List.length_set];exact Nat.le_refl _) o ho
  ·exact jobO_cl _ _ _) (by cases l <;> trivial)
 rwa [List.append_nil] at this
theorem weldR_num (m:Mesh):0 ≤ (weldR m).2.1∧(weldR m).2.1 ≤ 4096:=by
 unfold weldR
 by_cases h:m.check = 0
 ·rw [if_pos h]
  have h1:=wverts_len h
  have h2:=(Mesh.check_zero.1 h).1
  simp only [];omega
 ·rw [if_neg h];simp
section
variable {P:Program} (hm:P.follows .mixedOrders = true)
include hm
set_option maxHeartbeats 4000000 in
theorem repair_job_orient_ok {f fo:FuncId} (hf:FnOk P f (repair_job_orient.c fo) repair_job_orient.r repair_job_orient.n) (ho:OrientC P fo) :
  JobC P f (fun _ _=>True) (fun m r=>((oriR m).1,{ r with fl:=(oriR m).2.1 },(oriR m).2.2)):=by
 intro h id m r _ hid
 refine ACall_closed fun hcl=>?_
 obtain⟨hlt,hid'⟩:=List.getElem?_eq_some_iff.1 hid
 refine call_intro hm hf (Nat.le_of_ble_eq_true rfl) ?_
 unfold repair_job_orient.c
 generalize hK:DoneA h.length repair_job_orient.r _ = K
 have ho1:=ho m
 have hjd:=fun m' r' l=>job_done (id:=id) (m:=m') (r:=r') (m':=m') (r':=r') (e:=0) (l:=l) hcl
 generalize hq:oriR m = q at ho1
 obtain⟨a,b,c⟩:=q
 simp only [jobO,Mesh.cs,Rep.cs] at hid hid' hjd
 simp [go_sem,hid,hid',hlt,app_get_r,app_get_0,app_set_r,app_set_0,app_getL hlt,app_setL hlt]
 refine ACall_is ho1 ?_
 simp [go_sem,mieV,Mesh.enc,Mesh.cs,hid,hid',hlt,app_get_r,app_get_0,app_set_r,app_set_0,app_getL hlt,app_setL hlt,app_get_s,app_set_s]
 rw [← hK,DoneA_r]
 refine⟨[.i .i64 c],h.set id (jobO a { r with fl:=b }),?_,rfl,?_,?_,?_,hjd a { r with fl:=b } _,by simp [hq,tupV],by simp [hq]⟩
 ·simp [repair_job_orient.r,readR,go_sem]
 ·simp [V.cl,V.cl1,V.cl0]
 ·simp
 ·simp
set_option maxHeartbeats 4000000 in
theorem repair_job_fill_ok {f fo:FuncId} (hf:FnOk P f (repair_job_fill.c fo) repair_job_fill.r repair_job_fill.n) (ho:FillC P fo) :
  JobC P f (fun _ _=>True) (fun m r=>((fillR m).1,{ r with ho:=(fillR m).2.1 },(fillR m).2.2)):=by
 intro h id m r _ hid
 refine ACall_closed fun hcl=>?_
 obtain⟨hlt,hid'⟩:=List.getElem?_eq_some_iff.1 hid
 refine call_intro hm hf (Nat.le_of_ble_eq_true rfl) ?_
 unfold repair_job_fill.c
 generalize hK:DoneA h.length repair_job_fill.r _ = K
 have ho1:=ho m
 have hjd:=fun m' r' l=>job_done (id:=id) (m:=m') (r:=r') (m':=m') (r':=r') (e:=0) (l:=l) hcl
 generalize hq:fillR m = q at ho1
 obtain⟨a,b,c⟩:=q
 simp only [jobO,Mesh.cs,Rep.cs] at hid hid' hjd
 simp [go_sem,hid,hid',hlt,app_get_r,app_get_0,app_set_r,app_set_0,app_getL hlt,app_setL hlt]
 refine ACall_is ho1 ?_
 simp [go_sem,fillV,Mesh.enc,Mesh.cs,hid,hid',hlt,app_get_r,app_get_0,app_set_r,app_set_0,app_getL hlt,app_setL hlt,app_get_s,app_set_s]
 rw [← hK,DoneA_r]
 refine⟨[.i .i64 c],h.set id (jobO a { r with ho:=b }),?_,rfl,?_,?_,?_,hjd a { r with ho:=b } _,by simp [hq,tupV],by simp [hq]⟩
 ·simp [repair_job_fill.r,readR,go_sem]
 ·simp [V.cl,V.cl1,V.cl0]
 ·simp
 ·simp
set_option maxHeartbeats 4000000 in
theorem repair_job_outward_ok {f fo:FuncId} (hf:FnOk P f (repair_job_outward.c fo) repair_job_outward.r repair_job_outward.n) (ho:OutwardC P fo) :
  JobC P f (fun _ _=>True) (fun m r=>((outR m).1,{ r with iv:=(outR m).2.1 },(outR m).2.2)):=by
 intro h id m r _ hid
 refine ACall_closed fun hcl=>?_
 obtain⟨hlt,hid'⟩:=List.getElem?_eq_some_iff.1 hid
 refine call_intro hm hf (Nat.le_of_ble_eq_true rfl) ?_
 unfold repair_job_outward.c
 generalize hK:DoneA h.length repair_job_outward.r _ = K
 have ho1:=ho m
 have hjd:=fun m' r' l=>job_done (id:=id) (m:=m') (r:=r') (m':=m') (r':=r') (e:=0) (l:=l) hcl
 generalize hq:outR m = q at ho1
 obtain⟨a,b,c⟩:=q
 simp only [jobO,Mesh.cs,Rep.cs] at hid hid' hjd
 simp [go_sem,hid,hid',hlt,app_get_r,app_get_0,app_set_r,app_set_0,app_getL hlt,app_setL hlt]
 refine ACall_is ho1 ?_
 simp [go_sem,mieV,Mesh.enc,Mesh.cs,hid,hid',hlt,app_get_r,app_get_0,app_set_r,app_set_0,app_getL hlt,app_setL hlt,app_get_s,app_set_s]
 rw [← hK,DoneA_r]
 refine⟨[.i .i64 c],h.set id (jobO a { r with iv:=b }),?_,rfl,?_,?_,?_,hjd a { r with iv:=b } _,by simp [hq,tupV],by simp [hq]⟩
 ·simp [repair_job_outward.r,readR,go_sem]
 ·simp [V.cl,V.cl1,V.cl0]
 ·simp
 ·simp
set_option maxHeartbeats 4000000 in
theorem repair_job_clean_ok {f fo:FuncId} (hf:FnOk P f (repair_job_clean.c fo) repair_job_clean.r repair_job_clean.n) (ho:CleanC P fo) :
  JobC P f (fun _ _=>True) (fun m r=>((cleanR m).1,{ r with de:=(cleanR m).2.1,du:=(cleanR m).2.2.1 },(cleanR m).2.2.2)):=by
 intro h id m r _ hid
 refine ACall_closed fun hcl=>?_
 obtain⟨hlt,hid'⟩:=List.getElem?_eq_some_iff.1 hid
 refine call_intro hm hf (Nat.le_of_ble_eq_true rfl) ?_
 unfold repair_job_clean.c
 generalize hK:DoneA h.length repair_job_clean.r _ = K
 have ho1:=ho m
 have hjd:=fun m' r' l=>job_done (id:=id) (m:=m') (r:=r') (m':=m') (r':=r') (e:=0) (l:=l) hcl
 generalize hq:cleanR m = q at ho1
 obtain⟨a,b,b2,c⟩:=q
 simp only [jobO,Mesh.cs,Rep.cs] at hid hid' hjd
 simp [go_sem,hid,hid',hlt,app_get_r,app_get_0,app_set_r,app_set_0,app_getL hlt,app_setL hlt]
 refine ACall_is ho1 ?_
 simp [go_sem,cleanV,Mesh.enc,Mesh.cs,hid,hid',hlt,app_get_r,app_get_0,app_set_r,app_set_0,app_getL hlt,app_setL hlt,app_get_s,app_set_s]
 rw [← hK,DoneA_r]
 refine⟨[.i .i64 c],h.set id (jobO a { r with de:=b,du:=b2 }),?_,rfl,?_,?_,?_,hjd a { r with de:=b,du:=b2 } _,by simp [hq,tupV],by simp [hq]⟩
 ·simp [repair_job_clean.r,readR,go_sem]
 ·simp [V.cl,V.cl1,V.cl0]
 ·simp
 ·simp
set_option maxHeartbeats 4000000 in
theorem repair_job_weld_ok {f fo:FuncId} (hf:FnOk P f (repair_job_weld.c fo) repair_job_weld.r repair_job_weld.n) (ho:WeldC P fo) :
  JobC P f (fun _ r=>0 ≤ r.me∧r.me ≤ 1000000) (fun m r=>((weldR m).1,{ r with me:=r.me + (weldR m).2.1 },(weldR m).2.2)):=by
 intro h id m r hok hid
 refine ACall_closed fun hcl=>?_
 obtain⟨hlt,hid'⟩:=List.getElem?_eq_some_iff.1 hid
 refine call_intro hm hf (Nat.le_of_ble_eq_true rfl) ?_
 unfold repair_job_weld.c
 generalize hK:DoneA h.length repair_job_weld.r _ = K
 have ho1:=ho m
 have hjd:=fun m' r' l=>job_done (id:=id) (m:=m') (r:=r') (m':=m') (r':=r') (e:=0) (l:=l) hcl
 have hbd:=weldR_num m
 generalize hq:weldR m = q at ho1 hbd
 obtain⟨a,b,c⟩:=q
 have hw64:IntKind.i64.wrap (r.me + b) = r.me + b:=wrap64_small (by simp only [] at hbd;omega) (by simp only [] at hbd;omega)
 simp only [jobO,Mesh.cs,Rep.cs] at hid hid' hjd
 simp [go_sem,hid,hid',hlt,app_get_r,app_get_0,app_set_r,app_set_0,app_getL hlt,app_setL hlt]
 refine ACall_is ho1 ?_
 simp [go_sem,weldV,hw64,Mesh.enc,Mesh.cs,hid,hid',hlt,app_get_r,app_get_0,app_set_r,app_set_0,app_getL hlt,app_setL hlt,app_get_s,app_set_s]
 rw [← hK,DoneA_r]
 refine⟨[.i .i64 c],h.set id (jobO a { r with me:=r.me + b }),?_,rfl,?_,?_,?_,hjd a { r with me:=r.me + b } _,by simp [hq,tupV],by simp [hq]⟩
 ·simp [repair_job_weld.r,readR,go_sem]
 ·simp [V.cl,V.cl1,V.cl0]
 ·simp
 ·simp
set_option maxHeartbeats 4000000 in
theorem repair_job_check_ok {f fs fc:FuncId} (hf:FnOk P f (repair_job_check.c fs fc) repair_job_check.r repair_job_check.n) (hs:ShellsC P fs) (hc:ChkC P fc) :
  JobC P f (fun _ _=>True) (fun m r=>(m,{ r with sh:=(m.shells.length:Int) },chkR m)):=by
 intro h id m r _ hid
 obtain⟨hlt,hid'⟩:=List.getElem?_eq_some_iff.1 hid
 refine call_keep hm hf (Nat.le_of_ble_eq_true rfl) ?_
 unfold repair_job_check.c
 have hs1:=hs m
 have hc1:=hc m
 simp only [jobO,Mesh.cs,Rep.cs] at hid hid'
 simp [go_sem,hid,hid',hlt]
 refine ACall_is hs1 ?_
 simp [go_sem,lsV,hid,hid',hlt]
 refine ACall_is hc1 ?_
 simp [go_sem,repair_job_check.r,jobO,Mesh.cs,Rep.cs]
end
end Go.Abs
set_option linter.unusedVariables false
set_option linter.unusedSimpArgs false
namespace Go.Abs
def repV (p:Mesh × Rep × Int):V:=.t [p.1.enc,.a p.2.1.cs,.i .i64 p.2.2]
def RepC (P:Program) (f:FuncId):Prop:=∀ m:Mesh,CallIs P f [m.enc] (repV (repR m))
theorem repV_no (e:Int):Le (.t [.a [.nil,.nil],.a Rep.zero.cs,.i .i64 e]) (repV (noMesh,Rep.zero,e)) :=
 .inr ⟨_,_,rfl,rfl,.inr ⟨_,_,rfl,rfl,Le0.nil 3,Le0.nil 3,trivial⟩,Le1.refl _,Le1.refl _,trivial⟩
end Go.Abs
set_option linter.unusedVariables false
set_option linter.unusedSimpArgs false
namespace Go.Abs
noncomputable def jobG:Nat→Mesh→Rep→Mesh × Rep × Int
 | 0=>fun m r=>((weldR m).1,{ r with me:=r.me + (weldR m).2.1 },(weldR m).2.2)
 | 1=>fun m r=>((cleanR m).1,{ r with de:=(cleanR m).2.1,du:=(cleanR m).2.2.1 },(cleanR m).2.2.2)
 | 2=>fun m r=>((weldR m).1,{ r with me:=r.me + (weldR m).2.1 },(weldR m).2.2)
 | 3=>fun m r=>((oriR m).1,{ r with fl:=(oriR m).2.1 },(oriR m).2.2)
 | 4=>fun m r=>((fillR m).1,{ r with ho:=(fillR m).2.1 },(fillR m).2.2)
 | 5=>fun m r=>((outR m).1,{ r with iv:=(outR m).2.1 },(outR m).2.2)
 | _=>fun m r=>(m,{ r with sh:=(m.shells.length:Int) },chkR m)
noncomputable def jobS (m:Mesh):Nat→Mesh × Rep
 | 0=>(m,Rep.zero)
 | k + 1=>((jobG k (jobS m k).1 (jobS m k).2).1,(jobG k (jobS m k).1 (jobS m k).2).2.1)
noncomputable def jobE (m:Mesh) (k:Nat):Int:=(jobG k (jobS m k).1 (jobS m k).2).2.2
theorem jobG_me (k:Nat) (m:Mesh) (r:Rep):(jobG k m r).2.1.me = r.me ∨ (jobG k m r).2.1.me = r.me + (weldR m).2.1:=by
 match k with
 | 0=>exact .inr rfl
 | 1=>exact .inl rfl
 | 2=>exact .inr rfl
 | 3=>exact .inl rfl
 | 4=>exact .inl rfl
 | 5=>exact .inl rfl
 | k + 6=>exact .inl rfl
theorem jobS_succ (m:Mesh) (k:Nat):jobS m (k + 1) = ((jobG k (jobS m k).1 (jobS m k).2).1,(jobG k (jobS m k).1 (jobS m k).2).2.1):=rfl
theorem jobS_me (m:Mesh):∀ k:Nat,0 ≤ (jobS m k).2.me∧(jobS m k).2.me ≤ 4096 * k
 | 0=>by simp [jobS,Rep.zero]
 | k + 1=>by
   have ih:=jobS_me m k
   have hw:=weldR_num (jobS m k).1
   have hg:=jobG_me k (jobS m k).1 (jobS m k).2
   rw [jobS_succ]
   simp only []
   omega
theorem jobE_eq (m:Mesh) (k:Nat):jobE m k = (jobG k (jobS m k).1 (jobS m k).2).2.2:=rfl
theorem jM0 (m:Mesh):(jobS m 0).1 = m:=rfl
theorem jM1 (m:Mesh):(jobS m 1).1 = (weldR m).1:=by
 have h:(jobS m (0 + 1)).1 = (weldR (jobS m 0).1).1:=by
  rw [jobS_succ];generalize jobS m 0 = s;rfl
 rw [show 1 = 0 + 1 from rfl,h,jM0]
theorem jM2 (m:Mesh):(jobS m 2).1 = (cleanR (weldR m).1).1:=by
 have h:(jobS m (1 + 1)).1 = (cleanR (jobS m 1).1).1:=by
  rw [jobS_succ];generalize jobS m 1 = s;rfl
 rw [show 2 = 1 + 1 from rfl,h,jM1]
theorem jM3 (m:Mesh):(jobS m 3).1 = (weldR (cleanR (weldR m).1).1).1:=by
 have h:(jobS m (2 + 1)).1 = (weldR (jobS m 2).1).1:=by
  rw [jobS_succ];generalize jobS m 2 = s;rfl
 rw [show 3 = 2 + 1 from rfl,h,jM2]
theorem jM4 (m:Mesh):(jobS m 4).1 = (oriR (weldR (cleanR (weldR m).1).1).1).1:=by
 have h:(jobS m (3 + 1)).1 = (oriR (jobS m 3).1).1:=by
  rw [jobS_succ];generalize jobS m 3 = s;rfl
 rw [show 4 = 3 + 1 from rfl,h,jM3]
theorem jM5 (m:Mesh):(jobS m 5).1 = (fillR (oriR (weldR (cleanR (weldR m).1).1).1).1).1:=by
 have h:(jobS m (4 + 1)).1 = (fillR (jobS m 4).1).1:=by
  rw [jobS_succ];generalize jobS m 4 = s;rfl
 rw [show 5 = 4 + 1 from rfl,h,jM4]
theorem jM6 (m:Mesh):(jobS m 6).1 = (outR (fillR (oriR (weldR (cleanR (weldR m).1).1).1).1).1).1:=by
 have h:(jobS m (5 + 1)).1 = (outR (jobS m 5).1).1:=by
  rw [jobS_succ];generalize jobS m 5 = s;rfl
 rw [show 6 = 5 + 1 from rfl,h,jM5]
theorem jM7 (m:Mesh):(jobS m 7).1 = (outR (fillR (oriR (weldR (cleanR (weldR m).1).1).1).1).1).1:=by
 have h:(jobS m (6 + 1)).1 = (jobS m 6).1:=by
  rw [jobS_succ];generalize jobS m 6 = s;rfl
 rw [show 7 = 6 + 1 from rfl,h,jM6]
theorem jE0 (m:Mesh):jobE m 0 = (weldR m).2.2:=by
 have h:jobE m 0 = (weldR (jobS m 0).1).2.2:=by
  rw [jobE_eq];generalize jobS m 0 = s;rfl
 rw [h,jM0]
theorem jE1 (m:Mesh):jobE m 1 = (cleanR (weldR m).1).2.2.2:=by
 have h:jobE m 1 = (cleanR (jobS m 1).1).2.2.2:=by
  rw [jobE_eq];generalize jobS m 1 = s;rfl
 rw [h,jM1]
theorem jE2 (m:Mesh):jobE m 2 = (weldR (cleanR (weldR m).1).1).2.2:=by
 have h:jobE m 2 = (weldR (jobS m 2).1).2.2:=by
  rw [jobE_eq];generalize jobS m 2 = s;rfl
 rw [h,jM2]
theorem jE3 (m:Mesh):jobE m 3 = (oriR (weldR (cleanR (weldR m).1).1).1).2.2:=by
 have h:jobE m 3 = (oriR (jobS m 3).1).2.2:=by
  rw [jobE_eq];generalize jobS m 3 = s;rfl
 rw [h,jM3]
theorem jE4 (m:Mesh):jobE m 4 = (fillR (oriR (weldR (cleanR (weldR m).1).1).1).1).2.2:=by
 have h:jobE m 4 = (fillR (jobS m 4).1).2.2:=by
  rw [jobE_eq];generalize jobS m 4 = s;rfl
 rw [h,jM4]
theorem jE5 (m:Mesh):jobE m 5 = (outR (fillR (oriR (weldR (cleanR (weldR m).1).1).1).1).1).2.2:=by
 have h:jobE m 5 = (outR (jobS m 5).1).2.2:=by
  rw [jobE_eq];generalize jobS m 5 = s;rfl
 rw [h,jM5]
theorem jE6 (m:Mesh):jobE m 6 = chkR (outR (fillR (oriR (weldR (cleanR (weldR m).1).1).1).1).1).1:=by
 have h:jobE m 6 = chkR (jobS m 6).1:=by
  rw [jobE_eq];generalize jobS m 6 = s;rfl
 rw [h,jM6]
theorem jR0 (m:Mesh):(jobS m 0).2 = Rep.zero:=rfl
theorem jR1 (m:Mesh):(jobS m 1).2 = ⟨0 + (weldR m).2.1,0,0,0,0,0,0⟩:=by
 have h:(jobS m (0 + 1)).2 = { (jobS m 0).2 with me:=(jobS m 0).2.me + (weldR (jobS m 0).1).2.1 }:=by
  rw [jobS_succ];generalize jobS m 0 = s;rfl
 rw [show 1 = 0 + 1 from rfl,h,jM0,jR0];rfl
theorem jR2 (m:Mesh):(jobS m 2).2 = ⟨0 + (weldR m).2.1,(cleanR (weldR m).1).2.1,(cleanR (weldR m).1).2.2.1,0,0,0,0⟩:=by
 have h:(jobS m (1 + 1)).2 = { (jobS m 1).2 with de:=(cleanR (jobS m 1).1).2.1,du:=(cleanR (jobS m 1).1).2.2.1 }:=by
  rw [jobS_succ];generalize jobS m 1 = s;rfl
 rw [show 2 = 1 + 1 from rfl,h,jM1,jR1]
theorem jR3 (m:Mesh):(jobS m 3).2 = ⟨0 + (weldR m).2.1 + (weldR (cleanR (weldR m).1).1).2.1,(cleanR (weldR m).1).2.1,(cleanR (weldR m).1).2.2.1,0,0,0,0⟩:=by
 have h:(jobS m (2 + 1)).2 = { (jobS m 2).2 with me:=(jobS m 2).2.me + (weldR (jobS m 2).1).2.1 }:=by
  rw [jobS_succ];generalize jobS m 2 = s;rfl
 rw [show 3 = 2 + 1 from rfl,h,jM2,jR2]
theorem jR4 (m:Mesh):(jobS m 4).2 = ⟨0 + (weldR m).2.1 + (weldR (cleanR (weldR m).1).1).2.1,(cleanR (weldR m).1).2.1,(cleanR (weldR m).1).2.2.1,(oriR (weldR (cleanR (weldR m).1).1).1).2.1,0,0,0⟩:=by
 have h:(jobS m (3 + 1)).2 = { (jobS m 3).2 with fl:=(oriR (jobS m 3).1).2.1 }:=by
  rw [jobS_succ];generalize jobS m 3 = s;rfl
 rw [show 4 = 3 + 1 from rfl,h,jM3,jR3]
theorem jR5 (m:Mesh):(jobS m 5).2 = ⟨0 + (weldR m).2.1 + (weldR (cleanR (weldR m).1).1).2.1,(cleanR (weldR m).1).2.1,(cleanR (weldR m).1).2.2.1,(oriR (weldR (cleanR (weldR m).1).1).1).2.1,(fillR (oriR (weldR (cleanR (weldR m).1).1).1).1).2.1,0,0⟩:=by
 have h:(jobS m (4 + 1)).2 = { (jobS m 4).2 with ho:=(fillR (jobS m 4).1).2.1 }:=by
  rw [jobS_succ];generalize jobS m 4 = s;rfl
 rw [show 5 = 4 + 1 from rfl,h,jM4,jR4]
theorem jR6 (m:Mesh):(jobS m 6).2 = ⟨0 + (weldR m).2.1 + (weldR (cleanR (weldR m).1).1).2.1,(cleanR (weldR m).1).2.1,(cleanR (weldR m).1).2.2.1,(oriR (weldR (cleanR (weldR m).1).1).1).2.1,(fillR (oriR (weldR (cleanR (weldR m).1).1).1).1).2.1,(outR (fillR (oriR (weldR (cleanR (weldR m).1).1).1).1).1).2.1,0⟩:=by
 have h:(jobS m (5 + 1)).2 = { (jobS m 5).2 with iv:=(outR (jobS m 5).1).2.1 }:=by
  rw [jobS_succ];generalize jobS m 5 = s;rfl
 rw [show 6 = 5 + 1 from rfl,h,jM5,jR5]
theorem jR7 (m:Mesh):(jobS m 7).2 = ⟨0 + (weldR m).2.1 + (weldR (cleanR (weldR m).1).1).2.1,(cleanR (weldR m).1).2.1,(cleanR (weldR m).1).2.2.1,(oriR (weldR (cleanR (weldR m).1).1).1).2.1,(fillR (oriR (weldR (cleanR (weldR m).1).1).1).1).2.1,(outR (fillR (oriR (weldR (cleanR (weldR m).1).1).1).1).1).2.1,((outR (fillR (oriR (weldR (cleanR (weldR m).1).1).1).1).1).1.shells.length:Int)⟩:=by
 have h:(jobS m (6 + 1)).2 = { (jobS m 6).2 with sh:=((jobS m 6).1.shells.length:Int) }:=by
  rw [jobS_succ];generalize jobS m 6 = s;rfl
 rw [show 7 = 6 + 1 from rfl,h,jM6,jR6]
theorem repR_bad {m:Mesh} {j:Nat} (hj:j < 7) (h:∀ i,i < j→jobE m i = 0) (he:jobE m j ≠ 0):repR m = (noMesh,Rep.zero,jobE m j):=by
 unfold repR
 simp only []
 by_cases g0:jobE m 0 = 0
 case neg =>
  have:j = 0:=Decidable.byContradiction fun hh=>g0 (h 0 (by omega))
  subst this;rw [jE0] at g0 ⊢;rw [if_pos g0]
 rw [jE0] at g0;rw [if_neg (by simpa using g0)]
 by_cases g1:jobE m 1 = 0
 case neg =>
  have:j = 1:=by
   have a:¬ j = 0:=by rintro rfl;rw [jE0] at he;exact he g0
   exact Decidable.byContradiction fun hh=>g1 (h 1 (by omega))
  subst this;rw [jE1] at g1 ⊢;rw [if_pos g1]
 rw [jE1] at g1;rw [if_neg (by simpa using g1)]
 by_cases g2:jobE m 2 = 0
 case neg =>
  have:j = 2:=by
   have a0:¬ j = 0:=by rintro rfl;rw [jE0] at he;exact he g0
   have a1:¬ j = 1:=by rintro rfl;rw [jE1] at he;exact he g1
   exact Decidable.byContradiction fun hh=>g2 (h 2 (by omega))
  subst this;rw [jE2] at g2 ⊢;rw [if_pos g2]
 rw [jE2] at g2;rw [if_neg (by simpa using g2)]
 have a0:¬ j = 0:=by rintro rfl;rw [jE0] at he;exact he g0
 have a1:¬ j = 1:=by rintro rfl;rw [jE1] at he;exact he g1
 have a2:¬ j = 2:=by rintro rfl;rw [jE2] at he;exact he g2
 by_cases g3:jobE m 3 = 0
 case neg =>
  have:j = 3:=Decidable.byContradiction fun hh=>g3 (h 3 (by omega))
  subst this;rw [jE3] at g3 ⊢;rw [if_pos g3]
 rw [jE3] at g3;rw [if_neg (by simpa using g3)]
 have a3:¬ j = 3:=by rintro rfl;rw [jE3] at he;exact he g3
 by_cases g4:jobE m 4 = 0
 case neg =>
  have:j = 4:=Decidable.byContradiction fun hh=>g4 (h 4 (by omega))
  subst this;rw [jE4] at g4 ⊢;rw [if_pos g4]
 rw [jE4] at g4;rw [if_neg (by simpa using g4)]
 have a4:¬ j = 4:=by rintro rfl;rw [jE4] at he;exact he g4
 by_cases g5:jobE m 5 = 0
 case neg =>
  have:j = 5:=Decidable.byContradiction fun hh=>g5 (h 5 (by omega))
  subst this;rw [jE5] at g5 ⊢;rw [if_pos g5]
 rw [jE5] at g5;rw [if_neg (by simpa using g5)]
 have a5:¬ j = 5:=by rintro rfl;rw [jE5] at he;exact he g5
 obtain rfl:j = 6:=by omega
 rw [jE6] at he ⊢
 rw [if_pos he]
theorem repR_good {m:Mesh} (g:∀ i,i < 7→jobE m i = 0):repR m = ((jobS m 7).1,(jobS m 7).2,0):=by
 have h0:=g 0 (by omega);have h1:=g 1 (by omega);have h2:=g 2 (by omega);have h3:=g 3 (by omega);have h4:=g 4 (by omega);have h5:=g 5 (by omega);have h6:=g 6 (by omega)
 rw [jE0] at h0;rw [jE1] at h1;rw [jE2] at h2;rw [jE3] at h3;rw [jE4] at h4;rw [jE5] at h5;rw [jE6] at h6
 rw [jM7,jR7]
 unfold repR
 simp only []
 rw [if_neg (by simpa using h0),if_neg (by simpa using h1),if_neg (by simpa using h2),if_neg (by simpa using h3),if_neg (by simpa using h4),if_neg (by simpa using h5),if_neg (by simpa using h6),Int.zero_add]
def jobF (fw fc fo ff fu fk:FuncId):Nat→FuncId
 | 0=>fw
 | 1=>fc
 | 2=>fw
 | 3=>fo
 | 4=>ff
 | 5=>fu
 | _=>fk
def jobL (fw fc fo ff fu fk:FuncId):List (List V):=[[.f fw []],[.f fc []],[.f fw []],[.f fo []],[.f ff []],[.f fu []],[.f fk []]]
theorem jobL_get (fw fc fo ff fu fk:FuncId) {k:Nat} (h:k < 7):(jobL fw fc fo ff fu fk)[k]? = some [.f (jobF fw fc fo ff fu fk k) []]:=by
 match k,h with
 | 0,_=>rfl
 | 1,_=>rfl
 | 2,_=>rfl
 | 3,_=>rfl
 | 4,_=>rfl
 | 5,_=>rfl
 | 6,_=>rfl
def okJ (_:Mesh) (r:Rep):Prop:=0 ≤ r.me∧r.me ≤ 1000000
theorem JobC.ok {P:Program} {f:FuncId} {ok:Mesh→Rep→Prop} {g:Mesh→Rep→Mesh × Rep × Int} (h:JobC P f ok g) (hk:∀ m r,okJ m r→ok m r):JobC P f okJ g :=
 fun H id m r ho hid=>h H id m r (hk m r ho) hid
noncomputable def repN (p:Mesh × Rep × Int):V:=if p.2.2 = 0 then repV p else .t [.a [.nil,.nil],.a Rep.zero.cs,.i .i64 p.2.2]
theorem repN_le (m:Mesh):Le (repN (repR m)) (repV (repR m)):=by
 rcases repR_cases m with⟨h,h2⟩ | ⟨h,_⟩
 ·unfold repN
  rw [if_neg h]
  have h3:=repV_no (repR m).2.2
  rw [← h2] at h3
  exact h3
 ·unfold repN
  rw [if_pos h]
  exact Le.refl _
section
variable {P:Program} (hm:P.follows .mixedOrders = true)
include hm
set_option maxRecDepth 20000 in
set_option maxHeartbeats 8000000 in
theorem repair_Repair_ok {f fw fc fo ff fu fk:FuncId} (hf:FnOk P f (repair_Repair.c fw fc fo ff fu fk) repair_Repair.r repair_Repair.n)
  (hj:∀ k,k < 7→callable P (jobF fw fc fo ff fu fk k) = true∧JobC P (jobF fw fc fo ff fu fk k) okJ (jobG k)):RepC P f:=by
 intro m
 refine CallIs.res (r:=repN (repR m)) ?_ (repN_le m)
 refine PureC.is (pure_of hm hf (Nat.le_of_ble_eq_true rfl) ?_) rfl
 unfold repair_Repair.c
 have hget:=fun k (h:k < 7)=>jobL_get fw fc fo ff fu fk h
 have hL:∀ a,a = jobL fw fc fo ff fu fk→a.length = 7:=fun a h=>by rw [h];rfl
 simp [go_sem,Mesh.enc,Mesh.cs]
 refine AS_loop (α:=Nat) (fun k=>k ≤ 7∧∀ i,i < k→jobE m i = 0)
  (fun k=>⟨[(2,.p 1 1 0 0),(3,.p 2 1 0 0),(6,.p 4 1 0 0),(14,.own 3 1 0 7),(15,.i .i64 7),(16,.i .i64 k)],
   [.arr 1 2 [m.cs],.arr 1 2 [[.nil,.nil]],.arr 1 7 [Rep.zero.cs],.arr 1 1 (jobL fw fc fo ff fu fk),jobO (jobS m k).1 (jobS m k).2]⟩)
  (fun k=>7 - k) 0 ⟨Nat.zero_le _,by simp⟩ ?_ ?_
 ·simp [go_sem,jobS,jobO,jobL,Mesh.cs,Rep.cs,Rep.zero,vsV,tsV]
 ·rintro k ⟨hk,hno⟩
  by_cases hkl:k = 7
  ·subst hkl
   rw [repR_good hno]
   simp [go_sem,jobO,repair_Repair.r,repN,repV,Mesh.cs,Rep.cs,Mesh.enc,vsV,tsV,vcs_isD,tcs_isD]
  ·have hlt:k < 7:=by omega
   obtain⟨hcal,hjob⟩:=hj k hlt
   have hg:=hget k hlt
   have hme:=jobS_me m k
   have hlt7:(k:Int) < 7:=by omega
   have hlen:(jobL fw fc fo ff fu fk).length = 7:=rfl
   generalize hjl:jobL fw fc fo ff fu fk = JL at *
   obtain⟨_,hg'⟩:=List.getElem?_eq_some_iff.1 hg
   simp [go_sem,hlt,hlt7,hg,hg']
   refine⟨hcal,(hjob [.arr 1 2 [m.cs],.arr 1 2 [[.nil,.nil]],.arr 1 7 [Rep.zero.cs],.arr 1 1 JL,jobO (jobS m k).1 (jobS m k).2] 4 _ _ ⟨hme.1,by omega⟩ rfl).mono ?_⟩
   rintro r h' ⟨rfl,rfl⟩
   by_cases he:jobE m k = 0
   ·simp [go_sem,show (jobG k (jobS m k).1 (jobS m k).2).2.2 = 0 from he,hlt,wrap64_small]
    refine⟨k + 1,⟨by omega,fun i hi=>?_⟩,by omega,by rw [wrap64_small (by omega) (by omega)];omega,fun x hx=>?_,fun x hx=>?_,fun el hel x hx=>?_,.inr ⟨by rw [jobS_succ],jobO_cl _ _ 5⟩⟩
    ·by_cases hik:i = k
     ·subst hik;exact he
     ·exact hno i (by omega)
    ·simp [Mesh.cs] at hx
     rcases hx with rfl | rfl <;> rfl
    ·simp [Rep.cs,Rep.zero] at hx
     subst hx;rfl
    ·rw [← hjl] at hel
     simp [jobL] at hel
     rcases hel with rfl | rfl | rfl | rfl | rfl | rfl | rfl <;> (simp at hx;subst hx;rfl)
   ·rw [repR_bad hlt hno he]
    simp [go_sem,show ¬ (jobG k (jobS m k).1 (jobS m k).2).2.2 = 0 from he,repair_Repair.r,repN,Rep.zero,Rep.cs]
    rw [if_neg he];rfl
end
end Go.Abs
