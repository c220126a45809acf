/- Part of the library on which the proof stands: an abstract machine, its values and its soundness against the model; or what functions of the program do to such values. -/
import Derived.Test.YtcdjgldeiaiaoaaGreatGoRp
import Derived.Test.YtcdjgldeiaiaoaaGreatGoRpc
import Derived.Test.YtcdjgldeiaiaoaaGreatGoOz
set_option linter.unusedVariables false
set_option linter.unusedSimpArgs false
namespace Go.Abs
def InvC (P:Program) (f:FuncId):Prop:=∀m:Mesh,m.check=0->CallIs P f [m.enc] (.b m.inv)
def ChkC (P:Program) (f:FuncId):Prop:=∀m:Mesh,CallIs P f [m.enc] (.i .i64 (Ky m))
def NoneTo {α:Type} (p:α->Bool) (l:List α) (k:Nat):Prop:=(l.take k).any p=false
theorem NoneTo.zero {α:Type} (p:α->Bool) (l:List α):NoneTo p l 0:=by simp[NoneTo]
theorem NoneTo.all {α:Type} {p:α->Bool} {l:List α} (h:NoneTo p l l.length):l.any p=false:=by unfold NoneTo at h;rwa [List.take_length]at h
theorem Bo {α:Type} (p:α->Bool) {l:List α} {k:Nat} {a:α} (h:l[k]?=some a) (hn:NoneTo p l k) (ha:p a=false):NoneTo p l (k+1):=by
 unfold NoneTo at *
 rw[Qd h,List.any_append,hn];simp[ha]
theorem any_hit {α:Type} (p:α->Bool) {l:List α} {k:Nat} {a:α} (h:l[k]?=some a) (ha:p a=true):l.any p=true :=
 List.any_eq_true.2 ⟨a,List.mem_of_getElem? h,ha⟩
theorem degI_at {m:Mesh} (hz:m.check=0) {k:Nat} {t:T3} (h:m.tris[k]?=some t):m.degI (k:Int)=m.deg t:=by
 have hl:=(List.getElem?_eq_some_iff.1 h).1
 unfold Mesh.degI
 rw[if_pos ⟨by omega,by omega,hz⟩,Int.toNat_natCast,h]
theorem chkR_1 {m:Mesh} (h:m.check≠0):Ky m=m.check:=by unfold Ky;rw[if_pos h]
theorem chkR_2 {m:Mesh} (h:m.check=0) (h2:m.closed=false):Ky m=12:=by unfold Ky;rw[if_neg (by simpa using h),if_pos h2]
theorem chkR_3 {m:Mesh} (h:m.check=0) (h2:m.closed=true) (h3:Yv m.tris=false):Ky m=13:=by unfold Ky;rw[if_neg (by simpa using h),if_neg (by rw[h2];simp),if_pos h3]
theorem chkR_4 {m:Mesh} (h:m.check=0) (h2:m.closed=true) (h3:Yv m.tris=true):Ky m=if m.tris.any m.deg=true then 1 else if m.inv=true then 1 else 0:=by
 unfold Ky;rw[if_neg (by simpa using h),if_neg (by rw[h2];simp),if_neg (by rw[h3];simp)]
theorem coh_cohB {m:Mesh} (h:m.check=0):m.coh=Yv m.tris:=by unfold Mesh.coh;rw[h];simp
section
variable {P:Program} (hm:P.follows .mixedOrders=true)
include hm
set_option maxRecDepth 20000 in
set_option maxHeartbeats 8000000 in
theorem Im {f fs fv:FuncId} (hf:Q9 P f (repair_inverted.c fs fv) repair_inverted.r repair_inverted.n) (hs:Xt P fs) (hv:VolC P fv):InvC P f:=by
 intro m hz
 obtain⟨z1,z2,z3,z4⟩:=Mesh.check_zero.1 hz
 have hok:=J3 hz
 have hs1:=hs m
 unfold Mesh.inv
 generalize m.shells=shs at *
 generalize hp:(λsh=>decide (Y2 m.verts (Qk m.tris sh)<0))=p
 generalize hB:shs.any p=B
 refine PureC.is (Q7 hm hf (Nat.le_of_ble_eq_true rfl) ?_) rfl
 unfold repair_inverted.c
 simp[go_sem,Mesh.enc,Mesh.cs,vsV,tsV]
 refine Q3 hs1 ?_
 simp[go_sem,lsV]
 have hsv:∀(n:Nat) (a:V3),List.map (V.sh1 n) a.cs=a.cs:=λn a=>by simp[vcs,V.sh1,V.sh0]
 have hst:∀(n:Nat) (a:T3),List.map (V.sh1 n) a.cs=a.cs:=λn a=>by simp[tcs,V.sh1,V.sh0]
 refine Qe (α:=Nat) (λk=>k<=shs.length/\NoneTo p shs k)
  (λk=>⟨[(1,.p 0 1 0 0),(9,lsV shs),(10,.i .i64 shs.length),(11,.i .i64 k)],
   [.arr 1 2 [m.cs]]⟩)
  (λk=>shs.length-k) 0 ⟨Nat.zero_le _,NoneTo.zero _ _⟩ ?_ ?_
 ·simp[go_sem,lsV,Mesh.cs,vsV,tsV,Jf,Qp,hsv,hst]
 ·rintro k ⟨hk,hno⟩
  by_cases hkl:k=shs.length
  ·subst hkl
   obtain rfl:=hB.symm.trans hno.all
   simp[go_sem,lsV,repair_inverted.r]
  ·have hlt:k<shs.length:=by omega
   have hnum:=hok.num
   have hq:shs[k]?=some shs[k]:=List.getElem?_eq_getElem hlt
   have hmw:shs[k]∈shs:=List.getElem_mem _
   generalize shs[k]=sh at hq hmw
   obtain⟨_,hq'⟩:=List.getElem?_eq_some_iff.1 hq
   have hshl:=hok.len sh hmw
   have hshm:=hok.mem sh hmw
   simp[go_sem,lsV,hlt,hq,hq',Mesh.cs,vsV,tsV,isV]
   refine Qq [.c 1 0 1 3] (α:=Nat) (λj=>j<=sh.length)
    (λj=>⟨[(1,.p 0 1 0 0),(4,isV sh),(5,.p 1 1 0 0),(9,lsV shs),(10,.i .i64 shs.length),(11,.i .i64 k),(18,isV sh),(19,.i .i64 sh.length),(20,.i .i64 j)],
     [.arr 1 2 [m.cs],.arr 1 2 [[vsV m.verts,.own 2 (j+1) 0 j]],.arr (j+1) 3 ((Qk m.tris (sh.take j)).map T3.cs)]⟩)
    (λj=>sh.length-j) 0 (Nat.zero_le _) ?_ ?_
   ·simp[go_sem,lsV,isV,Qk,Mesh.cs,vsV,tsV,Jf,Qp]
   ·intro j hj
    by_cases hjl:j=sh.length
    ·subst hjl
     rw[List.take_length]
     have hpl:=X4 m.tris sh
     have hvol:=hv ⟨m.verts,Qk m.tris sh⟩
     have hve:(Mesh.mk m.verts (Qk m.tris sh)).vol6=Y2 m.verts (Qk m.tris sh):=by unfold Mesh.vol6;rw[if_pos (U0 hz hshl hshm)]
     rw[hve]at hvol
     have hps:p sh=decide (Y2 m.verts (Qk m.tris sh)<0):=by rw[<- hp]
     generalize Qk m.tris sh=PT at *
     have htkp:List.take sh.length (PT.map T3.cs)=PT.map T3.cs:=List.take_of_length_le (by simp;omega)
     simp[go_sem,lsV,isV]
     refine Eu (vs:=[(Mesh.mk m.verts PT).enc]) ?_ hvol ?_
     ·simp[go_sem,Zu,frz,Xm,Mesh.enc,Mesh.cs,vsV,tsV,Zw,htkp,hpl]
     ·by_cases hneg:Y2 m.verts PT<0
      ·have ha:shs.any p=true:=any_hit p hq (by rw[hps];simpa using hneg)
       obtain rfl:=hB.symm.trans ha
       simp (disch:=omega) [go_sem,vsV,tsV,hneg,repair_inverted.r]
      ·have ha:=Bo p hq hno (by rw[hps];simpa using hneg)
       simp (disch:=omega) [go_sem,vsV,tsV,hneg,Q0]
       refine⟨k+1,⟨by omega,ha⟩,by omega,?_⟩
       simp (disch:=omega) [go_sem,lsV,Mesh.cs,vsV,tsV,Jf,Qp,Q0]
    ·have hjlt:j<sh.length:=by omega
     have hq2:sh[j]?=some sh[j]:=List.getElem?_eq_getElem hjlt
     have hqm:sh[j]∈sh:=List.getElem_mem _
     have hpj:=λv (h:sh[j]?=some v)=>Uq (ts:=m.tris) h
     generalize sh[j]=v at hq2 hqm
     have hpj:=hpj v hq2
     obtain⟨_,hq2'⟩:=List.getElem?_eq_some_iff.1 hq2
     obtain⟨v0,v1⟩:=hshm v hqm
     have v2:v.toNat<m.tris.length:=by omega
     have ht:=Ql v2
     have hpl:=X4 m.tris (sh.take j)
     rw[List.length_take,Nat.min_eq_left (by omega)]at hpl
     generalize tAt m.tris v.toNat=t at ht hpj
     obtain⟨_,ht'⟩:=List.getElem?_eq_some_iff.1 ht
     generalize hPT:Qk m.tris (sh.take j)=PT at *
     have htkp:List.take j (PT.map T3.cs)=PT.map T3.cs:=List.take_of_length_le (by simp;omega)
     simp (disch:=omega) [go_sem,lsV,isV,Mesh.cs,vsV,tsV,hjlt,hq2,hq2',v0,v1,v2,ht,ht',tcs,htkp,hpl,Q0]
     refine⟨⟨by omega,by omega⟩,j+1,by omega,by omega,?_⟩
     rw[hpj]
     exact⟨by omega,rfl,by rw[List.map_append];rfl⟩
set_option maxRecDepth 20000 in
set_option maxHeartbeats 8000000 in
theorem repair_Check_ok {f fc fl fh fd fi:FuncId} (hf:Q9 P f (repair_Check.c fc fl fh fd fi) repair_Check.r repair_Check.n) (hc:Z8 P fc) (hl:W4 P fl) (hh:Kb P fh) (hd:DegC P fd) (hi:InvC P fi):ChkC P f:=by
 intro m
 have hl1:=hl m
 have hh1:=hh m
 by_cases hz:m.check=0
 case neg =>
  rw[chkR_1 hz]
  refine PureC.is (Q7 hm hf (Nat.le_of_ble_eq_true rfl) ?_) rfl
  unfold repair_Check.c
  simp[go_sem,Mesh.enc,Mesh.cs]
  refine Q3 (hc m) ?_
  simp[go_sem,hz,repair_Check.r]
 obtain⟨z1,z2,z3,z4⟩:=Mesh.check_zero.1 hz
 rw[coh_cohB hz]at hh1
 by_cases hcl:m.closed=false
 case pos =>
  rw[chkR_2 hz hcl]
  rw[hcl]at hl1
  refine PureC.is (Q7 hm hf (Nat.le_of_ble_eq_true rfl) ?_) rfl
  unfold repair_Check.c
  simp[go_sem,Mesh.enc,Mesh.cs]
  refine Q3 (hc m) ?_
  simp[go_sem,hz]
  refine Q3 hl1 ?_
  simp[go_sem,repair_Check.r]
 have hcl':m.closed=true:=by simpa using hcl
 rw[hcl']at hl1
 by_cases hco:Yv m.tris=false
 case pos =>
  rw[chkR_3 hz hcl' hco]
  rw[hco]at hh1
  refine PureC.is (Q7 hm hf (Nat.le_of_ble_eq_true rfl) ?_) rfl
  unfold repair_Check.c
  simp[go_sem,Mesh.enc,Mesh.cs]
  refine Q3 (hc m) ?_
  simp[go_sem,hz]
  refine Q3 hl1 ?_
  simp[go_sem]
  refine Q3 hh1 ?_
  simp[go_sem,repair_Check.r]
 have hco':Yv m.tris=true:=by simpa using hco
 rw[hco']at hh1
 rw[chkR_4 hz hcl' hco']
 generalize hA:m.tris.any m.deg=A
 refine PureC.is (Q7 hm hf (Nat.le_of_ble_eq_true rfl) ?_) rfl
 unfold repair_Check.c
 simp[go_sem,Mesh.enc,Mesh.cs,vsV,tsV]
 refine Q3 (hc m) ?_
 simp[go_sem,hz]
 refine Q3 hl1 ?_
 simp[go_sem]
 refine Q3 hh1 ?_
 have hsv:∀(n:Nat) (a:V3),List.map (V.sh1 n) a.cs=a.cs:=λn a=>by simp[vcs,V.sh1,V.sh0]
 have hst:∀(n:Nat) (a:T3),List.map (V.sh1 n) a.cs=a.cs:=λn a=>by simp[tcs,V.sh1,V.sh0]
 simp[go_sem]
 refine Qe (α:=Nat) (λk=>k<=m.tris.length/\NoneTo m.deg m.tris k)
  (λk=>⟨[(1,.p 0 1 0 0),(18,.i .i64 m.tris.length),(19,.i .i64 k)],[.arr 1 2 [m.cs]]⟩)
  (λk=>m.tris.length-k) 0 ⟨Nat.zero_le _,NoneTo.zero _ _⟩ ?_ ?_
 ·simp[go_sem,Mesh.cs,vsV,tsV,Jf,Qp,hsv,hst]
 ·rintro k ⟨hk,hno⟩
  by_cases hkl:k=m.tris.length
  ·subst hkl
   obtain rfl:=hA.symm.trans hno.all
   have hi1:=hi m hz
   simp[go_sem,Mesh.cs,vsV,tsV]
   refine Q3 hi1 ?_
   cases hin:m.inv<;>simp[go_sem,repair_Check.r]
  ·have hlt:k<m.tris.length:=by omega
   have hq:=Ql hlt
   have hdk:=hd m (k:Int)
   rw[degI_at hz hq]at hdk
   simp[go_sem,hlt,Mesh.cs,vsV,tsV]
   refine Q3 hdk ?_
   cases hdg:m.deg (tAt m.tris k) with
   | true =>
     have ha:m.tris.any m.deg=true:=any_hit _ hq hdg
     obtain rfl:=hA.symm.trans ha
     simp[go_sem,repair_Check.r]
   | false =>
     have ha:=Bo _ hq hno hdg
     simp (disch:=omega) [go_sem,Q0]
     refine⟨k+1,⟨by omega,ha⟩,by omega,?_⟩
     simp[go_sem,Mesh.cs,vsV,tsV,Jf,Qp]
theorem ref14_part_ok {f:FuncId} (hf:Q9 P f ref14_part.c ref14_part.r ref14_part.n):PartC P f:=Ib hm hf
set_option maxRecDepth 20000 in
set_option maxHeartbeats 8000000 in
theorem ref14_Check_ok {f fc fl fh fd fs fp fv:FuncId} (hf:Q9 P f (ref14_Check.c fc fl fh fd fs fp fv) ref14_Check.r ref14_Check.n) (hc:Z8 P fc) (hl:W4 P fl) (hh:Kb P fh) (hd:DegC P fd) (hs:Xt P fs) (hp:PartC P fp) (hv:VolC P fv):ChkC P f:=by
 intro m
 have hl1:=hl m
 have hh1:=hh m
 by_cases hz:m.check=0
 case neg =>
  rw[chkR_1 hz]
  refine PureC.is (Q7 hm hf (Nat.le_of_ble_eq_true rfl) ?_) rfl
  unfold ref14_Check.c
  simp[go_sem,Mesh.enc,Mesh.cs]
  refine Q3 (hc m) ?_
  simp[go_sem,hz,ref14_Check.r]
 obtain⟨z1,z2,z3,z4⟩:=Mesh.check_zero.1 hz
 rw[coh_cohB hz]at hh1
 by_cases hcl:m.closed=false
 case pos =>
  rw[chkR_2 hz hcl]
  rw[hcl]at hl1
  refine PureC.is (Q7 hm hf (Nat.le_of_ble_eq_true rfl) ?_) rfl
  unfold ref14_Check.c
  simp[go_sem,Mesh.enc,Mesh.cs]
  refine Q3 (hc m) ?_
  simp[go_sem,hz]
  refine Q3 hl1 ?_
  simp[go_sem,ref14_Check.r]
 have hcl':m.closed=true:=by simpa using hcl
 rw[hcl']at hl1
 by_cases hco:Yv m.tris=false
 case pos =>
  rw[chkR_3 hz hcl' hco]
  rw[hco]at hh1
  refine PureC.is (Q7 hm hf (Nat.le_of_ble_eq_true rfl) ?_) rfl
  unfold ref14_Check.c
  simp[go_sem,Mesh.enc,Mesh.cs]
  refine Q3 (hc m) ?_
  simp[go_sem,hz]
  refine Q3 hl1 ?_
  simp[go_sem]
  refine Q3 hh1 ?_
  simp[go_sem,ref14_Check.r]
 have hco':Yv m.tris=true:=by simpa using hco
 rw[hco']at hh1
 rw[chkR_4 hz hcl' hco']
 have hok:=J3 hz
 have hs1:=hs m
 unfold Mesh.inv
 generalize m.shells=shs at *
 generalize hp':(λsh=>decide (Y2 m.verts (Qk m.tris sh)<0))=p
 generalize hB:shs.any p=B
 generalize hA:m.tris.any m.deg=A
 refine PureC.is (Q7 hm hf (Nat.le_of_ble_eq_true rfl) ?_) rfl
 unfold ref14_Check.c
 simp[go_sem,Mesh.enc,Mesh.cs,vsV,tsV]
 refine Q3 (hc m) ?_
 simp[go_sem,hz]
 refine Q3 hl1 ?_
 simp[go_sem]
 refine Q3 hh1 ?_
 have hsv:∀(n:Nat) (a:V3),List.map (V.sh1 n) a.cs=a.cs:=λn a=>by simp[vcs,V.sh1,V.sh0]
 have hst:∀(n:Nat) (a:T3),List.map (V.sh1 n) a.cs=a.cs:=λn a=>by simp[tcs,V.sh1,V.sh0]
 simp[go_sem]
 refine Qe (α:=Nat) (λk=>k<=m.tris.length/\NoneTo m.deg m.tris k)
  (λk=>⟨[(1,.p 0 1 0 0),(4,.i .i64 k)],[.arr 1 2 [m.cs]]⟩)
  (λk=>m.tris.length-k) 0 ⟨Nat.zero_le _,NoneTo.zero _ _⟩ ?_ ?_
 ·simp[go_sem,Mesh.cs,vsV,tsV,Jf,Qp,hsv,hst]
 ·rintro k ⟨hk,hno⟩
  by_cases hkl:k=m.tris.length
  ·subst hkl
   obtain rfl:=hA.symm.trans hno.all
   simp[go_sem,Mesh.cs,vsV,tsV]
   refine Q3 hs1 ?_
   simp[go_sem,lsV]
   refine Qe (α:=Nat) (λk=>k<=shs.length/\NoneTo p shs k)
    (λk=>⟨[(1,.p 0 1 0 0),(5,lsV shs),(6,.i .i64 k)],[.arr 1 2 [m.cs]]⟩)
    (λk=>shs.length-k) 0 ⟨Nat.zero_le _,NoneTo.zero _ _⟩ ?_ ?_
   ·simp[go_sem,lsV,Mesh.cs,vsV,tsV,Jf,Qp,hsv,hst]
   ·rintro k ⟨hk,hno⟩
    by_cases hkl:k=shs.length
    ·subst hkl
     obtain rfl:=hB.symm.trans hno.all
     simp[go_sem,lsV,ref14_Check.r]
    ·have hlt:k<shs.length:=by omega
     have hnum:=hok.num
     have hq:shs[k]?=some shs[k]:=List.getElem?_eq_getElem hlt
     have hmw:shs[k]∈shs:=List.getElem_mem _
     generalize shs[k]=sh at hq hmw
     obtain⟨_,hq'⟩:=List.getElem?_eq_some_iff.1 hq
     have hshl:=hok.len sh hmw
     have hshm:=hok.mem sh hmw
     have hpt:=hp m sh (by omega) hshm
     have hvol:=hv ⟨m.verts,Qk m.tris sh⟩
     have hve:(Mesh.mk m.verts (Qk m.tris sh)).vol6=Y2 m.verts (Qk m.tris sh):=by unfold Mesh.vol6;rw[if_pos (U0 hz hshl hshm)]
     rw[hve]at hvol
     have hps:p sh=decide (Y2 m.verts (Qk m.tris sh)<0):=by rw[<- hp']
     simp[go_sem,lsV,hlt,hq,hq',Mesh.cs,vsV,tsV,isV]
     refine Qf hpt ?_
     simp[go_sem]
     refine Qf hvol ?_
     by_cases hneg:Y2 m.verts (Qk m.tris sh)<0
     ·have ha:shs.any p=true:=any_hit p hq (by rw[hps];simpa using hneg)
      obtain rfl:=hB.symm.trans ha
      simp (disch:=omega) [go_sem,hneg,ref14_Check.r]
     ·have ha:=Bo p hq hno (by rw[hps];simpa using hneg)
      simp (disch:=omega) [go_sem,hneg,Q0]
      refine⟨k+1,⟨by omega,ha⟩,by omega,?_⟩
      simp[go_sem,lsV,Mesh.cs,vsV,tsV,Jf,Qp]
  ·have hlt:k<m.tris.length:=by omega
   have hq:=Ql hlt
   have hdk:=hd m (k:Int)
   rw[degI_at hz hq]at hdk
   simp[go_sem,hlt,Mesh.cs,vsV,tsV]
   refine Q3 hdk ?_
   cases hdg:m.deg (tAt m.tris k) with
   | true =>
     have ha:m.tris.any m.deg=true:=any_hit _ hq hdg
     obtain rfl:=hA.symm.trans ha
     simp[go_sem,ref14_Check.r]
   | false =>
     have ha:=Bo _ hq hno hdg
     simp (disch:=omega) [go_sem,Q0]
     refine⟨k+1,⟨by omega,ha⟩,by omega,?_⟩
     simp[go_sem,Mesh.cs,vsV,tsV,Jf,Qp]
end
end Go.Abs
set_option linter.unusedVariables false
set_option linter.unusedSimpArgs false
namespace Go.Abs
def Rep.cs (r:Rep):List V:=[.i .i64 r.me,.i .i64 r.de,.i .i64 r.du,.i .i64 r.fl,.i .i64 r.ho,.i .i64 r.iv,.i .i64 r.sh]
def Js (m:Mesh) (r:Rep):O:=.arr 1 9 [m.cs++r.cs]
def JobC (P:Program) (f:FuncId) (ok:Mesh->Rep->Prop) (g:Mesh->Rep->Mesh × Rep × Int):Prop:=∀(h:List O) (id:Nat) (m:Mesh) (r:Rep),ok m r->h[id]?=some (Js m r) ->
 ACall P f [.p id 1 0 0] h (λr' h'=>r'=.i .i64 (g m r).2.2/\h'=h.set id (Js (g m r).1 (g m r).2.1))
theorem Yz {h l:List O} {id:Nat} (hid:id<h.length):(h++l)[id]?=h[id]?:=List.getElem?_append_left hid
theorem Yy {h l:List O} {id:Nat} (hid:id<h.length) (o:O):(h++l).set id o=h.set id o++l:=List.set_append_left _ _ hid
theorem Wl (h l:List O) (id:Nat) (o:O):(h.set id o++l)[h.length]?=l[0]?:=by
 have:=Qc (h.set id o) l
 rwa [List.length_set]at this
theorem Wj (h l:List O) (id:Nat) (o o':O):(h.set id o++l).set h.length o'=h.set id o++l.set 0 o':=by
 have:=Qv (h.set id o) l o'
 rwa [List.length_set]at this
theorem jobO_cl (m:Mesh) (r:Rep) (n:Nat):(Js m r).cl n:=by
 simp[Js,O.cl,Mesh.cs,Rep.cs,vsV,tsV,V.cl,V.cl1,V.cl0,vcs,tcs]
theorem Ux {h:List O} {id:Nat} {m m':Mesh} {r r':Rep} {l:List O} {e:Int} (hcl:∀n,h.length<=n->∀o∈h,o.cl n) :
  WeakH (h.set id (Js m r)).length (h.set id (Js m r)++l) (h.set id (Js m r)):=by
 have:=Z5 (n:=(h.set id (Js m r)).length) (a:=l) (b:=[]) (h:=h.set id (Js m r)) (λo ho=>by
  rcases List.mem_or_eq_of_mem_set ho with ho | rfl
  ·exact hcl _ (by rw[List.length_set];exact Nat.le_refl _) o ho
  ·exact jobO_cl _ _ _) (by cases l<;>trivial)
 rwa [List.append_nil]at this
theorem Ei (m:Mesh):0<=(Qb m).2.1/\(Qb m).2.1<=4096:=by
 unfold Qb
 by_cases h:m.check=0
 ·rw[if_pos h]
  have h1:=Ih h
  have h2:=(Mesh.check_zero.1 h).1
  simp only[];omega
 ·rw[if_neg h];simp
section
variable {P:Program} (hm:P.follows .mixedOrders=true)
include hm
set_option maxHeartbeats 4000000 in
theorem Uo {f fo:FuncId} (hf:Q9 P f (repair_job_orient.c fo) repair_job_orient.r repair_job_orient.n) (ho:Es P fo) :
  JobC P f (λ_ _=>True) (λm r=>((Zp m).1,{ r with fl:=(Zp m).2.1 },(Zp m).2.2)):=by
 intro h id m r _ hid
 refine Yr λhcl=>?_
 obtain⟨hlt,hid'⟩:=List.getElem?_eq_some_iff.1 hid
 refine Ja hm hf (Nat.le_of_ble_eq_true rfl) ?_
 unfold repair_job_orient.c
 generalize hK:Eh h.length repair_job_orient.r _=K
 have ho1:=ho m
 have hjd:=λm' r' l=>Ux (id:=id) (m:=m') (r:=r') (m':=m') (r':=r') (e:=0) (l:=l) hcl
 generalize hq:Zp m=q at ho1
 obtain⟨a,b,c⟩:=q
 simp only[Js,Mesh.cs,Rep.cs]at hid hid' hjd
 simp[go_sem,hid,hid',hlt,Qa,Qc,Z1,Qv,Yz hlt,Yy hlt]
 refine Q3 ho1 ?_
 simp[go_sem,Kx,Mesh.enc,Mesh.cs,hid,hid',hlt,Qa,Qc,Z1,Qv,Yz hlt,Yy hlt,Wl,Wj]
 rw[<- hK,Et]
 refine⟨[.i .i64 c],h.set id (Js a { r with fl:=b }),?_,rfl,?_,?_,?_,hjd a { r with fl:=b } _,by simp[hq,Yh],by simp[hq]⟩
 ·simp[repair_job_orient.r,Yf,go_sem]
 ·simp[V.cl,V.cl1,V.cl0]
 ·simp
 ·simp
set_option maxHeartbeats 4000000 in
theorem Il {f fo:FuncId} (hf:Q9 P f (repair_job_fill.c fo) repair_job_fill.r repair_job_fill.n) (ho:FillC P fo) :
  JobC P f (λ_ _=>True) (λm r=>((Qu m).1,{ r with ho:=(Qu m).2.1 },(Qu m).2.2)):=by
 intro h id m r _ hid
 refine Yr λhcl=>?_
 obtain⟨hlt,hid'⟩:=List.getElem?_eq_some_iff.1 hid
 refine Ja hm hf (Nat.le_of_ble_eq_true rfl) ?_
 unfold repair_job_fill.c
 generalize hK:Eh h.length repair_job_fill.r _=K
 have ho1:=ho m
 have hjd:=λm' r' l=>Ux (id:=id) (m:=m') (r:=r') (m':=m') (r':=r') (e:=0) (l:=l) hcl
 generalize hq:Qu m=q at ho1
 obtain⟨a,b,c⟩:=q
 simp only[Js,Mesh.cs,Rep.cs]at hid hid' hjd
 simp[go_sem,hid,hid',hlt,Qa,Qc,Z1,Qv,Yz hlt,Yy hlt]
 refine Q3 ho1 ?_
 simp[go_sem,Xo,Mesh.enc,Mesh.cs,hid,hid',hlt,Qa,Qc,Z1,Qv,Yz hlt,Yy hlt,Wl,Wj]
 rw[<- hK,Et]
 refine⟨[.i .i64 c],h.set id (Js a { r with ho:=b }),?_,rfl,?_,?_,?_,hjd a { r with ho:=b } _,by simp[hq,Yh],by simp[hq]⟩
 ·simp[repair_job_fill.r,Yf,go_sem]
 ·simp[V.cl,V.cl1,V.cl0]
 ·simp
 ·simp
set_option maxHeartbeats 4000000 in
theorem Ug {f fo:FuncId} (hf:Q9 P f (repair_job_outward.c fo) repair_job_outward.r repair_job_outward.n) (ho:Wn P fo) :
  JobC P f (λ_ _=>True) (λm r=>((Zs m).1,{ r with iv:=(Zs m).2.1 },(Zs m).2.2)):=by
 intro h id m r _ hid
 refine Yr λhcl=>?_
 obtain⟨hlt,hid'⟩:=List.getElem?_eq_some_iff.1 hid
 refine Ja hm hf (Nat.le_of_ble_eq_true rfl) ?_
 unfold repair_job_outward.c
 generalize hK:Eh h.length repair_job_outward.r _=K
 have ho1:=ho m
 have hjd:=λm' r' l=>Ux (id:=id) (m:=m') (r:=r') (m':=m') (r':=r') (e:=0) (l:=l) hcl
 generalize hq:Zs m=q at ho1
 obtain⟨a,b,c⟩:=q
 simp only[Js,Mesh.cs,Rep.cs]at hid hid' hjd
 simp[go_sem,hid,hid',hlt,Qa,Qc,Z1,Qv,Yz hlt,Yy hlt]
 refine Q3 ho1 ?_
 simp[go_sem,Kx,Mesh.enc,Mesh.cs,hid,hid',hlt,Qa,Qc,Z1,Qv,Yz hlt,Yy hlt,Wl,Wj]
 rw[<- hK,Et]
 refine⟨[.i .i64 c],h.set id (Js a { r with iv:=b }),?_,rfl,?_,?_,?_,hjd a { r with iv:=b } _,by simp[hq,Yh],by simp[hq]⟩
 ·simp[repair_job_outward.r,Yf,go_sem]
 ·simp[V.cl,V.cl1,V.cl0]
 ·simp
 ·simp
set_option maxHeartbeats 4000000 in
theorem Ey {f fo:FuncId} (hf:Q9 P f (repair_job_clean.c fo) repair_job_clean.r repair_job_clean.n) (ho:CleanC P fo) :
  JobC P f (λ_ _=>True) (λm r=>((Qg m).1,{ r with de:=(Qg m).2.1,du:=(Qg m).2.2.1 },(Qg m).2.2.2)):=by
 intro h id m r _ hid
 refine Yr λhcl=>?_
 obtain⟨hlt,hid'⟩:=List.getElem?_eq_some_iff.1 hid
 refine Ja hm hf (Nat.le_of_ble_eq_true rfl) ?_
 unfold repair_job_clean.c
 generalize hK:Eh h.length repair_job_clean.r _=K
 have ho1:=ho m
 have hjd:=λm' r' l=>Ux (id:=id) (m:=m') (r:=r') (m':=m') (r':=r') (e:=0) (l:=l) hcl
 generalize hq:Qg m=q at ho1
 obtain⟨a,b,b2,c⟩:=q
 simp only[Js,Mesh.cs,Rep.cs]at hid hid' hjd
 simp[go_sem,hid,hid',hlt,Qa,Qc,Z1,Qv,Yz hlt,Yy hlt]
 refine Q3 ho1 ?_
 simp[go_sem,Ju,Mesh.enc,Mesh.cs,hid,hid',hlt,Qa,Qc,Z1,Qv,Yz hlt,Yy hlt,Wl,Wj]
 rw[<- hK,Et]
 refine⟨[.i .i64 c],h.set id (Js a { r with de:=b,du:=b2 }),?_,rfl,?_,?_,?_,hjd a { r with de:=b,du:=b2 } _,by simp[hq,Yh],by simp[hq]⟩
 ·simp[repair_job_clean.r,Yf,go_sem]
 ·simp[V.cl,V.cl1,V.cl0]
 ·simp
 ·simp
set_option maxHeartbeats 4000000 in
theorem Ik {f fo:FuncId} (hf:Q9 P f (repair_job_weld.c fo) repair_job_weld.r repair_job_weld.n) (ho:WeldC P fo) :
  JobC P f (λ_ r=>0<=r.me/\r.me<=1000000) (λm r=>((Qb m).1,{ r with me:=r.me+(Qb m).2.1 },(Qb m).2.2)):=by
 intro h id m r hok hid
 refine Yr λhcl=>?_
 obtain⟨hlt,hid'⟩:=List.getElem?_eq_some_iff.1 hid
 refine Ja hm hf (Nat.le_of_ble_eq_true rfl) ?_
 unfold repair_job_weld.c
 generalize hK:Eh h.length repair_job_weld.r _=K
 have ho1:=ho m
 have hjd:=λm' r' l=>Ux (id:=id) (m:=m') (r:=r') (m':=m') (r':=r') (e:=0) (l:=l) hcl
 have hbd:=Ei m
 generalize hq:Qb m=q at ho1 hbd
 obtain⟨a,b,c⟩:=q
 have hw64:IntKind.i64.wrap (r.me+b)=r.me+b:=Q0 (by simp only[]at hbd;omega) (by simp only[]at hbd;omega)
 simp only[Js,Mesh.cs,Rep.cs]at hid hid' hjd
 simp[go_sem,hid,hid',hlt,Qa,Qc,Z1,Qv,Yz hlt,Yy hlt]
 refine Q3 ho1 ?_
 simp[go_sem,Xx,hw64,Mesh.enc,Mesh.cs,hid,hid',hlt,Qa,Qc,Z1,Qv,Yz hlt,Yy hlt,Wl,Wj]
 rw[<- hK,Et]
 refine⟨[.i .i64 c],h.set id (Js a { r with me:=r.me+b }),?_,rfl,?_,?_,?_,hjd a { r with me:=r.me+b } _,by simp[hq,Yh],by simp[hq]⟩
 ·simp[repair_job_weld.r,Yf,go_sem]
 ·simp[V.cl,V.cl1,V.cl0]
 ·simp
 ·simp
set_option maxHeartbeats 4000000 in
theorem Ez {f fs fc:FuncId} (hf:Q9 P f (repair_job_check.c fs fc) repair_job_check.r repair_job_check.n) (hs:Xt P fs) (hc:ChkC P fc) :
  JobC P f (λ_ _=>True) (λm r=>(m,{ r with sh:=(m.shells.length:Int) },Ky m)):=by
 intro h id m r _ hid
 obtain⟨hlt,hid'⟩:=List.getElem?_eq_some_iff.1 hid
 refine call_keep hm hf (Nat.le_of_ble_eq_true rfl) ?_
 unfold repair_job_check.c
 have hs1:=hs m
 have hc1:=hc m
 simp only[Js,Mesh.cs,Rep.cs]at hid hid'
 simp[go_sem,hid,hid',hlt]
 refine Q3 hs1 ?_
 simp[go_sem,lsV,hid,hid',hlt]
 refine Q3 hc1 ?_
 simp[go_sem,repair_job_check.r,Js,Mesh.cs,Rep.cs]
end
end Go.Abs
set_option linter.unusedVariables false
set_option linter.unusedSimpArgs false
namespace Go.Abs
def repV (p:Mesh × Rep × Int):V:=.t [p.1.enc,.a p.2.1.cs,.i .i64 p.2.2]
def RepC (P:Program) (f:FuncId):Prop:=∀m:Mesh,CallIs P f [m.enc] (repV (J5 m))
theorem W0 (e:Int):Le (.t [.a [.nil,.nil],.a Rep.zero.cs,.i .i64 e]) (repV (Zc,Rep.zero,e)) :=
 .inr ⟨_,_,rfl,rfl,.inr ⟨_,_,rfl,rfl,Le0.nil 3,Le0.nil 3,trivial⟩,Le1.refl _,Le1.refl _,trivial⟩
section
variable {P:Program} (hm:P.follows .mixedOrders=true)
include hm
set_option maxRecDepth 20000 in
set_option maxHeartbeats 8000000 in
theorem ref14_Repair_ok {f fw fc fo ff fu fk fs:FuncId} (hf:Q9 P f (ref14_Repair.c fw fc fo ff fu fk fs) ref14_Repair.r ref14_Repair.n) (hw:WeldC P fw) (hc:CleanC P fc) (ho:Es P fo) (hfi:FillC P ff) (hu:Wn P fu) (hk:ChkC P fk) (hs:Xt P fs):RepC P f:=by
 intro m
 have hR:J5 m=J5 m:=rfl
 conv at hR=>rhs;unfold J5
 simp only[]at hR
 have c1:=hw m
 generalize hq1:Qb m=q1 at *
 obtain⟨m1,n1,e1⟩:=q1
 by_cases h1:e1=0
 case neg =>
  rw[hR]
  simp only[h1,ne_eq,not_false_eq_true,not_true_eq_false,if_true,if_false]
  refine CallIs.res (r:=.t [.a [.nil,.nil],.a Rep.zero.cs,.i .i64 e1]) ?_ (W0 _)
  refine PureC.is (Q7 hm hf (Nat.le_of_ble_eq_true rfl) ?_) rfl
  unfold ref14_Repair.c
  simp[go_sem,Mesh.enc,Mesh.cs]
  refine Q3 c1 ?_
  simp[go_sem,Xx,Mesh.enc,Mesh.cs,h1,ref14_Repair.r,Rep.zero,Rep.cs]
 simp only[h1,ne_eq,not_true_eq_false,if_false]at hR
 have c2:=hc m1
 generalize hq2:Qg m1=q2 at *
 obtain⟨m2,n2,k2,e2⟩:=q2
 by_cases h2:e2=0
 case neg =>
  rw[hR]
  simp only[h1,h2,ne_eq,not_false_eq_true,not_true_eq_false,if_true,if_false]
  refine CallIs.res (r:=.t [.a [.nil,.nil],.a Rep.zero.cs,.i .i64 e2]) ?_ (W0 _)
  refine PureC.is (Q7 hm hf (Nat.le_of_ble_eq_true rfl) ?_) rfl
  unfold ref14_Repair.c
  simp[go_sem,Mesh.enc,Mesh.cs]
  refine Q3 c1 ?_
  simp[go_sem,Xx,Mesh.enc,Mesh.cs,h1]
  refine Q3 c2 ?_
  simp[go_sem,Ju,Mesh.enc,Mesh.cs,h1,h2,ref14_Repair.r,Rep.zero,Rep.cs]
 simp only[h2,ne_eq,not_true_eq_false,if_false]at hR
 have c3:=hw m2
 generalize hq3:Qb m2=q3 at *
 obtain⟨m3,n3,e3⟩:=q3
 by_cases h3:e3=0
 case neg =>
  rw[hR]
  simp only[h1,h2,h3,ne_eq,not_false_eq_true,not_true_eq_false,if_true,if_false]
  refine CallIs.res (r:=.t [.a [.nil,.nil],.a Rep.zero.cs,.i .i64 e3]) ?_ (W0 _)
  refine PureC.is (Q7 hm hf (Nat.le_of_ble_eq_true rfl) ?_) rfl
  unfold ref14_Repair.c
  simp[go_sem,Mesh.enc,Mesh.cs]
  refine Q3 c1 ?_
  simp[go_sem,Xx,Mesh.enc,Mesh.cs,h1]
  refine Q3 c2 ?_
  simp[go_sem,Ju,Mesh.enc,Mesh.cs,h1,h2]
  refine Q3 c3 ?_
  simp[go_sem,Xx,Mesh.enc,Mesh.cs,h1,h2,h3,ref14_Repair.r,Rep.zero,Rep.cs]
 simp only[h3,ne_eq,not_true_eq_false,if_false]at hR
 have c4:=ho m3
 generalize hq4:Zp m3=q4 at *
 obtain⟨m4,n4,e4⟩:=q4
 by_cases h4:e4=0
 case neg =>
  rw[hR]
  simp only[h1,h2,h3,h4,ne_eq,not_false_eq_true,not_true_eq_false,if_true,if_false]
  refine CallIs.res (r:=.t [.a [.nil,.nil],.a Rep.zero.cs,.i .i64 e4]) ?_ (W0 _)
  refine PureC.is (Q7 hm hf (Nat.le_of_ble_eq_true rfl) ?_) rfl
  unfold ref14_Repair.c
  simp[go_sem,Mesh.enc,Mesh.cs]
  refine Q3 c1 ?_
  simp[go_sem,Xx,Mesh.enc,Mesh.cs,h1]
  refine Q3 c2 ?_
  simp[go_sem,Ju,Mesh.enc,Mesh.cs,h1,h2]
  refine Q3 c3 ?_
  simp[go_sem,Xx,Mesh.enc,Mesh.cs,h1,h2,h3]
  refine Q3 c4 ?_
  simp[go_sem,Kx,Mesh.enc,Mesh.cs,h1,h2,h3,h4,ref14_Repair.r,Rep.zero,Rep.cs]
 simp only[h4,ne_eq,not_true_eq_false,if_false]at hR
 have c5:=hfi m4
 generalize hq5:Qu m4=q5 at *
 obtain⟨m5,n5,e5⟩:=q5
 by_cases h5:e5=0
 case neg =>
  rw[hR]
  simp only[h1,h2,h3,h4,h5,ne_eq,not_false_eq_true,not_true_eq_false,if_true,if_false]
  refine CallIs.res (r:=.t [.a [.nil,.nil],.a Rep.zero.cs,.i .i64 e5]) ?_ (W0 _)
  refine PureC.is (Q7 hm hf (Nat.le_of_ble_eq_true rfl) ?_) rfl
  unfold ref14_Repair.c
  simp[go_sem,Mesh.enc,Mesh.cs]
  refine Q3 c1 ?_
  simp[go_sem,Xx,Mesh.enc,Mesh.cs,h1]
  refine Q3 c2 ?_
  simp[go_sem,Ju,Mesh.enc,Mesh.cs,h1,h2]
  refine Q3 c3 ?_
  simp[go_sem,Xx,Mesh.enc,Mesh.cs,h1,h2,h3]
  refine Q3 c4 ?_
  simp[go_sem,Kx,Mesh.enc,Mesh.cs,h1,h2,h3,h4]
  refine Q3 c5 ?_
  simp[go_sem,Xo,Mesh.enc,Mesh.cs,h1,h2,h3,h4,h5,ref14_Repair.r,Rep.zero,Rep.cs]
 simp only[h5,ne_eq,not_true_eq_false,if_false]at hR
 have c6:=hu m5
 generalize hq6:Zs m5=q6 at *
 obtain⟨m6,n6,e6⟩:=q6
 by_cases h6:e6=0
 case neg =>
  rw[hR]
  simp only[h1,h2,h3,h4,h5,h6,ne_eq,not_false_eq_true,not_true_eq_false,if_true,if_false]
  refine CallIs.res (r:=.t [.a [.nil,.nil],.a Rep.zero.cs,.i .i64 e6]) ?_ (W0 _)
  refine PureC.is (Q7 hm hf (Nat.le_of_ble_eq_true rfl) ?_) rfl
  unfold ref14_Repair.c
  simp[go_sem,Mesh.enc,Mesh.cs]
  refine Q3 c1 ?_
  simp[go_sem,Xx,Mesh.enc,Mesh.cs,h1]
  refine Q3 c2 ?_
  simp[go_sem,Ju,Mesh.enc,Mesh.cs,h1,h2]
  refine Q3 c3 ?_
  simp[go_sem,Xx,Mesh.enc,Mesh.cs,h1,h2,h3]
  refine Q3 c4 ?_
  simp[go_sem,Kx,Mesh.enc,Mesh.cs,h1,h2,h3,h4]
  refine Q3 c5 ?_
  simp[go_sem,Xo,Mesh.enc,Mesh.cs,h1,h2,h3,h4,h5]
  refine Q3 c6 ?_
  simp[go_sem,Kx,Mesh.enc,Mesh.cs,h1,h2,h3,h4,h5,h6,ref14_Repair.r,Rep.zero,Rep.cs]
 simp only[h6,ne_eq,not_true_eq_false,if_false]at hR
 have c7:=hk m6
 by_cases h7:Ky m6=0
 case neg =>
  rw[hR]
  simp only[h1,h2,h3,h4,h5,h6,h7,ne_eq,not_false_eq_true,not_true_eq_false,if_true,if_false]
  refine CallIs.res (r:=.t [.a [.nil,.nil],.a Rep.zero.cs,.i .i64 (Ky m6)]) ?_ (W0 _)
  refine PureC.is (Q7 hm hf (Nat.le_of_ble_eq_true rfl) ?_) rfl
  unfold ref14_Repair.c
  simp[go_sem,Mesh.enc,Mesh.cs]
  refine Q3 c1 ?_
  simp[go_sem,Xx,Mesh.enc,Mesh.cs,h1]
  refine Q3 c2 ?_
  simp[go_sem,Ju,Mesh.enc,Mesh.cs,h1,h2]
  refine Q3 c3 ?_
  simp[go_sem,Xx,Mesh.enc,Mesh.cs,h1,h2,h3]
  refine Q3 c4 ?_
  simp[go_sem,Kx,Mesh.enc,Mesh.cs,h1,h2,h3,h4]
  refine Q3 c5 ?_
  simp[go_sem,Xo,Mesh.enc,Mesh.cs,h1,h2,h3,h4,h5]
  refine Q3 c6 ?_
  simp[go_sem,Kx,Mesh.enc,Mesh.cs,h1,h2,h3,h4,h5,h6]
  refine Q3 c7 ?_
  simp[go_sem,h7,ref14_Repair.r,Rep.zero,Rep.cs]
 rw[hR]
 simp only[h7,ne_eq,not_true_eq_false,if_false]
 have c8:=hs m6
 have hnum:=Ei m
 have hnum2:=Ei m2
 rw[hq1]at hnum
 rw[hq3]at hnum2
 simp only[]at hnum hnum2
 have hw64:IntKind.i64.wrap (n1+n3)=n1+n3:=Q0 (by omega) (by omega)
 refine PureC.is (Q7 hm hf (Nat.le_of_ble_eq_true rfl) ?_) rfl
 unfold ref14_Repair.c
 simp[go_sem,Mesh.enc,Mesh.cs]
 refine Q3 c1 ?_
 simp[go_sem,Xx,Mesh.enc,Mesh.cs,h1]
 refine Q3 c2 ?_
 simp[go_sem,Ju,Mesh.enc,Mesh.cs,h1,h2]
 refine Q3 c3 ?_
 simp[go_sem,Xx,Mesh.enc,Mesh.cs,h1,h2,h3]
 refine Q3 c4 ?_
 simp[go_sem,Kx,Mesh.enc,Mesh.cs,h1,h2,h3,h4]
 refine Q3 c5 ?_
 simp[go_sem,Xo,Mesh.enc,Mesh.cs,h1,h2,h3,h4,h5]
 refine Q3 c6 ?_
 simp[go_sem,Kx,Mesh.enc,Mesh.cs,h1,h2,h3,h4,h5,h6]
 refine Q3 c7 ?_
 simp[go_sem,h7,hw64]
 refine Q3 c8 ?_
 simp[go_sem,lsV,hw64,ref14_Repair.r,repV,Rep.cs,Mesh.enc,Mesh.cs,vsV,tsV,Y7,Zw]
end
end Go.Abs
