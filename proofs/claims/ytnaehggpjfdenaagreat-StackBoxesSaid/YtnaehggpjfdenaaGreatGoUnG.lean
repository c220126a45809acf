/- Part of the library on which the proof stands: an abstract machine, its values and its soundness against the model; or what functions of the program do to such values. -/
import Derived.Test.YtnaehggpjfdenaaGreatGoRevC
import Derived.Test.YtnaehggpjfdenaaGreatGoDet
import Derived.Test.YtnaehggpjfdenaaGreatGoShp
import Derived.Test.YtnaehggpjfdenaaGreatGoMap
import Derived.Test.YtnaehggpjfdenaaGreatGoSkB
import Derived.Test.YtnaehggpjfdenaaGreatGoRw
import Derived.Test.YtnaehggpjfdenaaGreatGoSkE
import Derived.Test.YtnaehggpjfdenaaGreatGoSkC
import Derived.Test.YtnaehggpjfdenaaGreatGoMapG
set_option linter.unusedVariables false
set_option linter.unusedSimpArgs false
set_option maxHeartbeats 16000000
set_option maxRecDepth 20000
namespace Go.Abs
def L12.c (L0c L1z L0h L2g L13:FuncId):C :=(.seq (.reg [Au 1 (.box (.t 0)),Ac 2 0]) (.seq (.seq (.reg [Ag 5 2 1,Au 6 (.call L0c [.t 5]),Am 3 6]) (.seq (.reg [Am 7 3,Ak .neq 8 7 0]) (.ite (.t 8) (.seq (.reg [Am 9 3,Am 2 9]) .ret) .skip))) (.seq (.seq (.reg [Ag 10 2 1,Au 11 (.call L1z [.t 10]),Au 12 (.un .not (.t 11))]) (.ite (.t 12) (.seq (.reg [Ac 2 12]) .ret) .skip)) (.seq (.seq (.reg [Ag 13 2 1,Au 14 (.call L0h [.t 13]),Au 15 (.un .not (.t 14))]) (.ite (.t 15) (.seq (.reg [Ac 2 13]) .ret) .skip)) (.seq (.seq (.reg [Af 16 1 1,Al 17 16,An 18 0 17,Ac 19 0]) (.blk 0 (.loop (.seq (.reg [Aj .lss 20 19 18])
 (.seq (.ite (.t 20) .skip (.exit 0)) (.seq (.blk 1 (.seq (.reg [Am 21 19,Am 4 21]) (.seq (.reg [Ag 22 2 1,Am 23 4,Au 24 (.call L2g [.t 22,.t 23])]) (.ite (.t 24) (.seq (.reg [Ac 2 1]) .ret) .skip)))) (.reg [Ad 25 19 1,Am 19 25]))))))) (.seq (.seq (.reg [Ag 26 2 1,Au 27 (.call L13 [.t 26])]) (.ite (.t 27) (.seq (.reg [Ac 2 1]) .ret) .skip)) (.seq (.reg [Ac 2 0]) .ret)))))))
def L12.r:List Rr:=[.tmp 2]
abbrev L12.n:Nat:=28
def L13.c (L20 L0e:FuncId):C :=(.seq (.reg [Au 1 (.box (.t 0)),Ab 2 false]) (.seq (.seq (.reg [Ag 8 2 1,Au 9 (.call L20 [.t 8]),An 10 0 9,Ac 11 0]) (.blk 0 (.loop (.seq (.reg [Aj .lss 12 11 10]) (.seq (.ite (.t 12) .skip (.exit 0)) (.seq (.blk 1 (.seq (.reg [Ai 13 1 9 11,Al 14 13,Am 4 14]) (.seq (.reg [Af 15 0 1,Al 16 15,Au 17 (.build [.nil,.nil] [(0,1,(.t 16))]),Au 5 (.alloc [.nil,.nil]),As 2 5 17]) (.seq (.seq (.reg [Am 18 4,An 19 0 18,Ac 20 0]) (.blk 2 (.loop (.seq (.reg [Aj .lss 21 20 19]) (.seq (.ite (.t 21) .skip (.exit 2)) (.seq (.blk 3 (.seq (.reg [Ai 22 1 18 20,Al 23 22,Am 7 23]) (.drw [
 Af 24 1 5,Al 25 24,Af 26 1 1,Al 27 26,Am 28 7,Ai 29 3 27 28,Ag 30 3 29,Au 31 (.bsi 3 1 [(.i .i64 0),(.i .i64 0),(.i .i64 0)] [(0,(.t 30))]),Au 32 (.app 3 24 (.t 25) (.t 31)),Af 33 1 5,As 1 33 32] []))) (.reg [Ad 34 20 1,Am 20 34]))))))) (.seq (.reg [Ag 35 2 5,Au 36 (.call L0e [.t 35]),Ak .lss 37 36 0]) (.ite (.t 37) (.seq (.reg [Ab 2 true]) .ret) .skip)))))) (.reg [Ad 38 11 1,Am 11 38]))))))) (.seq (.reg [Ab 2 false]) .ret)))
def L13.r:List Rr:=[.tmp 2]
abbrev L13.n:Nat:=39
def Bb (P:Program) (f:FuncId):Prop:=∀v:V3,CallIs P f [v.enc] (.b (v.within 131072))
def Qgs (P:Program) (f:FuncId):Prop:=∀b c:V3,b.valid=true->c.valid=true->CallIs P f [b.enc,c.enc] (crs b c).enc
def DotVC (P:Program) (f:FuncId):Prop:=∀a b:V3,a.valid=true->b.within 8589934592=true->CallIs P f [a.enc,b.enc] (.i .i64 (Qok a b))
theorem Xh {v:V3} (h:v.valid=true):v.within 131072=true:=by
 have:=V3.valid_iff.1 h
 simp[V3.within];omega
theorem Q9w {v:V3} {a b:Int} (hab:a<=b) (h:v.within a=true):v.within b=true:=by
 simp[V3.within]at h ⊢;omega
theorem Qem {b c:V3} (hb:b.valid=true) (hc:c.valid=true):(crs b c).within 8589934592=true:=by
 have:=crs_b hb hc
 simp[V3.within];omega
section
variable {P:Program} (hm:P.follows .mixedOrders=true)
include hm
theorem Q77 {f fw:FuncId} (hf:Q9 P f (L2e.c fw) L2e.r L2e.n) (hw:Ue P fw):Bb P f:=by
 intro v
 refine PureC.is (Q8 hm hf (qj rfl) ?_) rfl
 unfold L2e.c
 simp[go_sem,V3.enc,V3.cs]
 refine Q5 ((hw v 131072 (by omega) (by omega)).is rfl) ?_
 simp[go_sem,L2e.r]
theorem Q79 {f fs:FuncId} (hf:Q9 P f (L29.c fs) L29.r L29.n) (hs:Bb P fs):Qgs P f:=by
 intro b c hb hc
 refine PureC.is (Q8 hm hf (qj rfl) ?_) rfl
 unfold L29.c
 have h1:=hs b
 have h2:=hs c
 rw[Xh hb]at h1
 rw[Xh hc]at h2
 obtain⟨b1,b2,b3,b4,b5,b6⟩:=V3.valid_iff.1 hb
 obtain⟨c1,c2,c3,c4,c5,c6⟩:=V3.valid_iff.1 hc
 have m1:=W0 b3 b4 c5 c6
 have m2:=W0 b5 b6 c3 c4
 have m3:=W0 b5 b6 c1 c2
 have m4:=W0 b1 b2 c5 c6
 have m5:=W0 b1 b2 c3 c4
 have m6:=W0 b3 b4 c1 c2
 have hcr:crs b c=⟨b.y*c.z-b.z*c.y,b.z*c.x-b.x*c.z,b.x*c.y-b.y*c.x⟩:=rfl
 rw[hcr]
 simp[go_sem,V3.enc,V3.cs]at h1 h2 ⊢
 refine Q5 h1 ?_
 simp[go_sem]
 refine Q5 h2 ?_
 simp (disch:=omega) [go_sem,Q3,L29.r]
theorem Qcq {f fs fw:FuncId} (hf:Q9 P f (L2b.c fs fw) L2b.r L2b.n) (hs:Bb P fs) (hw:Ue P fw):DotVC P f:=by
 intro a b ha hb
 refine PureC.is (Q8 hm hf (qj rfl) ?_) rfl
 unfold L2b.c
 have h1:=hs a
 have h2:=(hw b 1099511627776 (by omega) (by omega)).is rfl
 rw[Xh ha]at h1
 rw[Q9w (by omega) hb]at h2
 obtain⟨b1,b2,b3,b4,b5,b6⟩:=V3.valid_iff.1 ha
 simp only[V3.within,Bool.and_eq_true,decide_eq_true_eq]at hb
 obtain⟨⟨⟨⟨⟨c1,c2⟩,c3⟩,c4⟩,c5⟩,c6⟩:=hb
 have m1:=Qdt b1 b2 c1 c2
 have m2:=Qdt b3 b4 c3 c4
 have m3:=Qdt b5 b6 c5 c6
 have hd:Qok a b=a.x*b.x+a.y*b.y+a.z*b.z:=rfl
 rw[hd]
 simp[go_sem,V3.enc,V3.cs]at h1 h2 ⊢
 refine Q5 h1 ?_
 simp[go_sem]
 refine Q5 h2 ?_
 simp (disch:=omega) [go_sem,Q3,L2b.r]
theorem Qcr {f fs fc fd:FuncId} (hf:Q9 P f (L2a.c fs fc fd) L2a.r L2a.n) (hs:Bb P fs) (hc:Qgs P fc) (hd:DotVC P fd):DetC P f:=by
 intro x y z hx hy hz
 refine PureC.is (Q8 hm hf (qj rfl) ?_) rfl
 unfold L2a.c
 have h1:=hs y
 have h2:=hs z
 rw[Xh hy]at h1
 rw[Xh hz]at h2
 simp[go_sem,V3.enc,V3.cs]at h1 h2 ⊢
 refine Q5 h1 ?_
 simp[go_sem]
 refine Q5 h2 ?_
 simp[go_sem]
 refine Qn (hc y z hy hz) ?_
 simp[go_sem]
 refine Qn (hd x (crs y z) hx (Qem hy hz)) ?_
 simp[go_sem,L2a.r,Qbx]
theorem Q23 {f fc fd:FuncId} (hf:Q9 P f (L0e.c fc fd) L0e.r L0e.n) (hc:Js P fc) (hd:DetC P fd):VolC P f:=by
 intro m
 refine PureC.is (Q8 hm hf (qj rfl) ?_) rfl
 unfold L0e.c
 have hv:m.vol6=if m.check=0 then Yz m.verts m.tris else 0:=rfl
 by_cases hz:m.check=0
 case neg =>
  rw[hv,if_neg hz]
  simp[go_sem,Mesh.enc,Mesh.cs]
  refine Q5 (hc m) ?_
  simp[go_sem,hz,L0e.r]
 rw[hv,if_pos hz]
 obtain⟨z1,z2,z3,z4⟩:=Mesh.check_zero.1 hz
 simp[go_sem,Mesh.enc,Mesh.cs]
 refine Q5 (hc m) ?_
 simp[go_sem,hz,vsV,tsV]
 refine Qi (α:=Nat) (λk=>k<=m.tris.length)
  (λk=>⟨[(1,.p 0 1 0 0),(3,.i .i64 (Yz m.verts (m.tris.take k))),(10,tsV m.tris),(11,.i .i64 m.tris.length),(12,.i .i64 k)],[.arr 1 2 [m.cs]]⟩)
  (λk=>m.tris.length-k) 0 (Nat.zero_le _) ?_ ?_
 ·simp[go_sem,Mesh.cs,vsV,tsV,I3]
 ·intro k hk
  by_cases hkl:k=m.tris.length
  ·subst hkl
   rw[qk]
   simp[go_sem,Mesh.cs,vsV,tsV,L0e.r]
  ·have hlt:k<m.tris.length:=by omega
   have hp:m.tris[k]?=some m.tris[k]:=qb hlt
   generalize m.tris[k]=t at hp
   obtain⟨_,hp'⟩:=qa.1 hp
   have hok:=Q2p z4 hp
   obtain⟨a1,a2,b1,b2,c1,c2⟩:=T3.ok_iff.1 hok
   have ga:=Q28 a1 a2
   have gb:=Q28 b1 b2
   have gc:=Q28 c1 c2
   have va:=J0 z3 a1 a2
   have vb:=J0 z3 b1 b2
   have vc:=J0 z3 c1 c2
   have hb1:=Qkh z3 (ts:=m.tris.take k) (by
    simp only[W6,ql]at z4 ⊢
    exact λx hx=>z4 x (List.mem_of_mem_take hx))
   have hb2:=Qkg z3 hok
   have hln:((m.tris.take k).length:Int)<=4096:=by rw[qx];omega
   have hs:Yz m.verts (m.tris.take (k+1))=Yz m.verts (m.tris.take k)+Q9z m.verts t:=by
    rw[List.take_add_one,hp,Qki,Option.toList_some,Wx,I3];omega
   have hvt:Q9z m.verts t=Qbx (vAt m.verts t.a) (vAt m.verts t.b) (vAt m.verts t.c):=rfl
   have hdd:=hd _ _ _ va vb vc
   rw[<- hvt]at hdd
   clear hvt
   generalize vAt m.verts t.a=A at *
   generalize vAt m.verts t.b=B at *
   generalize vAt m.verts t.c=C at *
   generalize Yz m.verts (m.tris.take k)=S at *
   generalize Q9z m.verts t=T at *
   obtain⟨ia,ga'⟩:=qa.1 ga
   obtain⟨ib,gb'⟩:=qa.1 gb
   obtain⟨ic,gc'⟩:=qa.1 gc
   simp[go_sem,Mesh.cs,vsV,tsV,hlt,hp,hp',tcs,a1,b1,c1,ga,gb,gc,ia,ib,ic,ga',gb',gc',vcs]
   simp[go_sem,V3.enc,vcs]at hdd
   refine Qn hdd ?_
   simp (disch:=omega) [go_sem,Q3]
   refine⟨k+1,by omega,by omega,?_⟩
   exact⟨hs.symm,by omega⟩
end
theorem Qay {ts:List T3} {sh:List Int} {j:Nat} {v:Int} (h:sh[j]?=some v):Zj ts (sh.take (j+1))=Zj ts (sh.take j)++[tAt ts v.toNat]:=by
 unfold Zj;rw[Qc h,qy];rfl
theorem Q3e (ts:List T3) (sh:List Int):(Zj ts sh).length=sh.length:=by simp[Zj]
def InvC (P:Program) (f:FuncId):Prop:=∀m:Mesh,m.check=0->CallIs P f [m.enc] (.b m.inv)
def ChkC (P:Program) (f:FuncId):Prop:=∀m:Mesh,CallIs P f [m.enc] (.i .i64 (Wp m))
def NoneTo {α:Type} (p:α->Bool) (l:List α) (k:Nat):Prop:=(l.take k).any p=false
theorem NoneTo.zero {α:Type} (p:α->Bool) (l:List α):NoneTo p l 0:=by simp[NoneTo]
theorem NoneTo.all {α:Type} {p:α->Bool} {l:List α} (h:NoneTo p l l.length):l.any p=false:=by unfold NoneTo at h;rwa [qk]at h
theorem Qa6 {α:Type} (p:α->Bool) {l:List α} {k:Nat} {a:α} (h:l[k]?=some a) (hn:NoneTo p l k) (ha:p a=false):NoneTo p l (k+1):=by
 unfold NoneTo at *
 rw[Qc h,List.any_append,hn];simp[ha]
theorem Qgl {α:Type} (p:α->Bool) {l:List α} {k:Nat} {a:α} (h:l[k]?=some a) (ha:p a=true):l.any p=true :=
 List.any_eq_true.2 ⟨a,qe h,ha⟩
theorem degI_at {m:Mesh} (hz:m.check=0) {k:Nat} {t:T3} (h:m.tris[k]?=some t):m.degI (k:Int)=m.deg t:=by
 have hl:=(qa.1 h).1
 unfold Mesh.degI
 rw[if_pos ⟨by omega,by omega,hz⟩,Int.toNat_natCast,h]
theorem chkR_1 {m:Mesh} (h:m.check≠0):Wp m=m.check:=by unfold Wp;rw[if_pos h]
theorem chkR_2 {m:Mesh} (h:m.check=0) (h2:m.closed=false):Wp m=12:=by unfold Wp;rw[if_neg (by simpa using h),if_pos h2]
theorem chkR_3 {m:Mesh} (h:m.check=0) (h2:m.closed=true) (h3:Q0j m.tris=false):Wp m=13:=by unfold Wp;rw[if_neg (by simpa using h),if_neg (by rw[h2];simp),if_pos h3]
theorem chkR_4 {m:Mesh} (h:m.check=0) (h2:m.closed=true) (h3:Q0j m.tris=true):Wp m=if m.tris.any m.deg=true then 1 else if m.inv=true then 1 else 0:=by
 unfold Wp;rw[if_neg (by simpa using h),if_neg (by rw[h2];simp),if_neg (by rw[h3];simp)]
theorem Qoo {m:Mesh} (h:m.check=0):m.coh=Q0j m.tris:=by unfold Mesh.coh;rw[h];simp
section
variable {P:Program} (hm:P.follows .mixedOrders=true)
include hm
theorem E7 {f fs fv:FuncId} (hf:Q9 P f (L13.c fs fv) L13.r L13.n) (hs:Q9c P fs) (hv:VolC P fv):InvC P f:=by
 intro m hz
 obtain⟨z1,z2,z3,z4⟩:=Mesh.check_zero.1 hz
 have hok:=Qhr hz
 have hs1:=hs m
 unfold Mesh.inv
 generalize m.shells=shs at *
 generalize hp:(λsh=>decide (Yz m.verts (Zj m.tris sh)<0))=p
 generalize hB:shs.any p=B
 refine PureC.is (Q8 hm hf (qj rfl) ?_) rfl
 unfold L13.c
 simp[go_sem,Mesh.enc,Mesh.cs,vsV,tsV]
 refine Q5 hs1 ?_
 simp[go_sem,lsV]
 have hsv:∀(n:Nat) (a:V3),List.map (V.sh1 n) a.cs=a.cs:=λn a=>by simp[vcs,V.sh1,V.sh0]
 have hst:∀(n:Nat) (a:T3),List.map (V.sh1 n) a.cs=a.cs:=λn a=>by simp[tcs,V.sh1,V.sh0]
 refine Qi (α:=Nat) (λk=>k<=shs.length/\NoneTo p shs k)
  (λk=>⟨[(1,.p 0 1 0 0),(9,lsV shs),(10,.i .i64 shs.length),(11,.i .i64 k)],
   [.arr 1 2 [m.cs]]⟩)
  (λk=>shs.length-k) 0 ⟨Nat.zero_le _,NoneTo.zero _ _⟩ ?_ ?_
 ·simp[go_sem,lsV,Mesh.cs,vsV,tsV,Qa1,E6,hsv,hst]
 ·rintro k ⟨hk,hno⟩
  by_cases hkl:k=shs.length
  ·subst hkl
   obtain rfl:=hB.symm.trans hno.all
   simp[go_sem,lsV,L13.r]
  ·have hlt:k<shs.length:=by omega
   have hnum:=hok.num
   have hq:shs[k]?=some shs[k]:=qb hlt
   have hmw:shs[k]∈shs:=List.getElem_mem _
   generalize shs[k]=sh at hq hmw
   obtain⟨_,hq'⟩:=qa.1 hq
   have hshl:=hok.len sh hmw
   have hshm:=hok.mem sh hmw
   simp[go_sem,lsV,hlt,hq,hq',Mesh.cs,vsV,tsV,isV]
   refine Z0 [.c 1 0 1 3] (α:=Nat) (λj=>j<=sh.length)
    (λj=>⟨[(1,.p 0 1 0 0),(4,isV sh),(5,.p 1 1 0 0),(9,lsV shs),(10,.i .i64 shs.length),(11,.i .i64 k),(18,isV sh),(19,.i .i64 sh.length),(20,.i .i64 j)],
     [.arr 1 2 [m.cs],.arr 1 2 [[vsV m.verts,.own 2 (j+1) 0 j]],.arr (j+1) 3 ((Zj m.tris (sh.take j)).map T3.cs)]⟩)
    (λj=>sh.length-j) 0 (Nat.zero_le _) ?_ ?_
   ·simp[go_sem,lsV,isV,Zj,Mesh.cs,vsV,tsV,Qa1,E6]
   ·intro j hj
    by_cases hjl:j=sh.length
    ·subst hjl
     rw[qk]
     have hpl:=Q3e m.tris sh
     have hvol:=hv ⟨m.verts,Zj m.tris sh⟩
     have hve:(Mesh.mk m.verts (Zj m.tris sh)).vol6=Yz m.verts (Zj m.tris sh):=by unfold Mesh.vol6;rw[if_pos (Qdl hz hshl hshm)]
     rw[hve]at hvol
     have hps:p sh=decide (Yz m.verts (Zj m.tris sh)<0):=by rw[<- hp]
     generalize Zj m.tris sh=PT at *
     have htkp:List.take sh.length (PT.map T3.cs)=PT.map T3.cs:=qg (by simp;omega)
     simp[go_sem,lsV,isV]
     refine Y3 (vs:=[(Mesh.mk m.verts PT).enc]) ?_ hvol ?_
     ·simp[go_sem,Yr,frz,Yx,Mesh.enc,Mesh.cs,vsV,tsV,Qfj,htkp,hpl]
     ·by_cases hneg:Yz m.verts PT<0
      ·have ha:shs.any p=true:=Qgl p hq (by rw[hps];simpa using hneg)
       obtain rfl:=hB.symm.trans ha
       simp (disch:=omega) [go_sem,vsV,tsV,hneg,L13.r]
      ·have ha:=Qa6 p hq hno (by rw[hps];simpa using hneg)
       simp (disch:=omega) [go_sem,vsV,tsV,hneg,Q3]
       refine⟨k+1,⟨by omega,ha⟩,by omega,?_⟩
       simp (disch:=omega) [go_sem,lsV,Mesh.cs,vsV,tsV,Qa1,E6,Q3]
    ·have hjlt:j<sh.length:=by omega
     have hq2:sh[j]?=some sh[j]:=qb hjlt
     have hqm:sh[j]∈sh:=List.getElem_mem _
     have hpj:=λv (h:sh[j]?=some v)=>Qay (ts:=m.tris) h
     generalize sh[j]=v at hq2 hqm
     have hpj:=hpj v hq2
     obtain⟨_,hq2'⟩:=qa.1 hq2
     obtain⟨v0,v1⟩:=hshm v hqm
     have v2:v.toNat<m.tris.length:=by omega
     have ht:=Zo v2
     have hpl:=Q3e m.tris (sh.take j)
     rw[qx,Nat.min_eq_left (by omega)]at hpl
     generalize tAt m.tris v.toNat=t at ht hpj
     obtain⟨_,ht'⟩:=qa.1 ht
     generalize hPT:Zj m.tris (sh.take j)=PT at *
     have htkp:List.take j (PT.map T3.cs)=PT.map T3.cs:=qg (by simp;omega)
     simp (disch:=omega) [go_sem,lsV,isV,Mesh.cs,vsV,tsV,hjlt,hq2,hq2',v0,v1,v2,ht,ht',tcs,htkp,hpl,Q3]
     refine⟨⟨by omega,by omega⟩,j+1,by omega,by omega,?_⟩
     rw[hpj]
     exact⟨by omega,rfl,by rw[qy];rfl⟩
theorem Q1d {f fc fl fh fd fi:FuncId} (hf:Q9 P f (L12.c fc fl fh fd fi) L12.r L12.n) (hc:Js P fc) (hl:Q9p P fl) (hh:Q0u P fh) (hd:DegC P fd) (hi:InvC P fi):ChkC P f:=by
 intro m
 have hl1:=hl m
 have hh1:=hh m
 by_cases hz:m.check=0
 case neg =>
  rw[chkR_1 hz]
  refine PureC.is (Q8 hm hf (qj rfl) ?_) rfl
  unfold L12.c
  simp[go_sem,Mesh.enc,Mesh.cs]
  refine Q5 (hc m) ?_
  simp[go_sem,hz,L12.r]
 obtain⟨z1,z2,z3,z4⟩:=Mesh.check_zero.1 hz
 rw[Qoo hz]at hh1
 by_cases hcl:m.closed=false
 case pos =>
  rw[chkR_2 hz hcl]
  rw[hcl]at hl1
  refine PureC.is (Q8 hm hf (qj rfl) ?_) rfl
  unfold L12.c
  simp[go_sem,Mesh.enc,Mesh.cs]
  refine Q5 (hc m) ?_
  simp[go_sem,hz]
  refine Q5 hl1 ?_
  simp[go_sem,L12.r]
 have hcl':m.closed=true:=by simpa using hcl
 rw[hcl']at hl1
 by_cases hco:Q0j m.tris=false
 case pos =>
  rw[chkR_3 hz hcl' hco]
  rw[hco]at hh1
  refine PureC.is (Q8 hm hf (qj rfl) ?_) rfl
  unfold L12.c
  simp[go_sem,Mesh.enc,Mesh.cs]
  refine Q5 (hc m) ?_
  simp[go_sem,hz]
  refine Q5 hl1 ?_
  simp[go_sem]
  refine Q5 hh1 ?_
  simp[go_sem,L12.r]
 have hco':Q0j m.tris=true:=by simpa using hco
 rw[hco']at hh1
 rw[chkR_4 hz hcl' hco']
 generalize hA:m.tris.any m.deg=A
 refine PureC.is (Q8 hm hf (qj rfl) ?_) rfl
 unfold L12.c
 simp[go_sem,Mesh.enc,Mesh.cs,vsV,tsV]
 refine Q5 (hc m) ?_
 simp[go_sem,hz]
 refine Q5 hl1 ?_
 simp[go_sem]
 refine Q5 hh1 ?_
 have hsv:∀(n:Nat) (a:V3),List.map (V.sh1 n) a.cs=a.cs:=λn a=>by simp[vcs,V.sh1,V.sh0]
 have hst:∀(n:Nat) (a:T3),List.map (V.sh1 n) a.cs=a.cs:=λn a=>by simp[tcs,V.sh1,V.sh0]
 simp[go_sem]
 refine Qi (α:=Nat) (λk=>k<=m.tris.length/\NoneTo m.deg m.tris k)
  (λk=>⟨[(1,.p 0 1 0 0),(18,.i .i64 m.tris.length),(19,.i .i64 k)],[.arr 1 2 [m.cs]]⟩)
  (λk=>m.tris.length-k) 0 ⟨Nat.zero_le _,NoneTo.zero _ _⟩ ?_ ?_
 ·simp[go_sem,Mesh.cs,vsV,tsV,Qa1,E6,hsv,hst]
 ·rintro k ⟨hk,hno⟩
  by_cases hkl:k=m.tris.length
  ·subst hkl
   obtain rfl:=hA.symm.trans hno.all
   have hi1:=hi m hz
   simp[go_sem,Mesh.cs,vsV,tsV]
   refine Q5 hi1 ?_
   cases hin:m.inv<;>simp[go_sem,L12.r]
  ·have hlt:k<m.tris.length:=by omega
   have hq:=Zo hlt
   have hdk:=hd m (k:Int)
   rw[degI_at hz hq]at hdk
   simp[go_sem,hlt,Mesh.cs,vsV,tsV]
   refine Q5 hdk ?_
   cases hdg:m.deg (tAt m.tris k) with
   | true =>
     have ha:m.tris.any m.deg=true:=Qgl _ hq hdg
     obtain rfl:=hA.symm.trans ha
     simp[go_sem,L12.r]
   | false =>
     have ha:=Qa6 _ hq hno hdg
     simp (disch:=omega) [go_sem,Q3]
     refine⟨k+1,⟨by omega,ha⟩,by omega,?_⟩
     simp[go_sem,Mesh.cs,vsV,tsV,Qa1,E6]
end
structure Sett where
 pitch:Int
 height:Int
 walls:Int
 top:Int
 bottom:Int
 pattern:Int
 spacing:Int
 support:Bool
 reach:Int
 gap:Int
 brim:Int
 skirt:Int
 drop:Int
 feed:Int
 travel:Int
 retract:Int
 minTime:Int
 minFeed:Int
 nozzle:Int
 bed:Int
def Sett.cs (s:Sett):List V:=[.i .i64 s.pitch,.i .i64 s.height,.i .i64 s.walls,.i .i64 s.top,.i .i64 s.bottom,.i .i64 s.pattern,.i .i64 s.spacing,.b s.support,.i .i64 s.reach,.i .i64 s.gap,
 .i .i64 s.brim,.i .i64 s.skirt,.i .i64 s.drop,.i .i64 s.feed,.i .i64 s.travel,.i .i64 s.retract,.i .i64 s.minTime,.i .i64 s.minFeed,.i .i64 s.nozzle,.i .i64 s.bed]
def Sett.enc (s:Sett):V:=.a s.cs
def Qf8 (P:Program) (f:FuncId):Prop:=∀(m:Mesh) (s:Sett),CallIs P f [m.enc,s.enc] (.t [Jy (Jf m s.pitch s.height).1,.i .i64 (Jf m s.pitch s.height).2])
theorem Qkf {l:List V3} (h:Ja l=true) {v:V3} (hv:v∈l):v.valid=true:=by
 unfold Ja at h
 exact ql.1 h v hv
theorem bHi_bd {l:List V3} (hl:l≠[]) (hv:∀v∈l,v.valid=true):(bHi l).z<=65536/\-65536<=(bHi l).z:=by
 have hb:∀v∈l,v.z<=65536/\-65536<=v.z:=λv h=>by
  have:=V3.val_iff.1 (hv v h)
  omega
 cases l with
 | nil=>exact absurd rfl hl
 | cons v l =>
   unfold bHi
   rw[(Qoy (v::l) v).2.2]
   rcases (Qm6 V3.z (v::l) v.z).2.2 with h | ⟨w,hw,h⟩
   ·rw[h];exact hb v (by simp)
   ·rw[h];exact hb w hw
def rgE (g:List Rw):List V:=[rwL g]
theorem Q7t (l:List (List Rw)) (n:Nat):∀g∈l,∀x∈rgE g,x.cl n=true:=λg _ x hx=>by
 simp[rgE]at hx
 subst hx
 rfl
theorem Qfo (l:List (List Rw)):∀g∈l,∀x∈rgE g,x.isD=true:=λg _ x hx=>by
 simp[rgE]at hx
 subst hx
 rfl
theorem Xf (l:List (List Rw)):Jy l=.l 1 (l.map rgE):=rfl
section
variable {P:Program} (hm:P.follows .mixedOrders=true)
include hm
theorem Q4v {f fc fb fh fs:FuncId} (hf:Q9 P f (L1w.c fc fb fh fs) L1w.r L1w.n) (hc:ChkC P fc) (hb:Qpz P fb) (hh:HgtC P fh) (hs:Qf0 P fs):Qf8 P f:=by
 intro m s
 have hcc:=hc m
 have hnil:∀e:Int,Le (.t [.nil,.i .i64 e]) (.t [Jy [],.i .i64 e]):=λe=>.inr ⟨_,_,rfl,rfl,.inl (Le0.nil 1),Le1.refl _,trivial⟩
 unfold Jf
 by_cases h0:Wp m=0
 case neg =>
  rw[if_pos h0]
  refine CallIs.res (r:=.t [.nil,.i .i64 (Wp m)]) ?_ (hnil _)
  refine PureC.is (Q8 hm hf (qj rfl) ?_) rfl
  have hb:(Wp m != 0)=true:=by simpa using h0
  unfold L1w.c
  simp[go_sem,Mesh.enc,Mesh.cs,Sett.enc,Sett.cs]
  refine Q5 hcc ?_
  simp[go_sem,h0,hb,L1w.r]
 rw[if_neg (by simp[h0])]
 rw[h0]at hcc
 have hmc:=(snd_iff.1 h0).z
 have hbc:=hb m hmc
 by_cases hv:m.verts=[]
 ·rw[if_pos hv]
  rw[decide_eq_false (by simp[hv])]at hbc
  refine CallIs.res (r:=.t [.nil,.i .i64 0]) ?_ (hnil _)
  refine PureC.is (Q8 hm hf (qj rfl) ?_) rfl
  unfold L1w.c
  simp[go_sem,Mesh.enc,Mesh.cs,Sett.enc,Sett.cs]
  refine Q5 hcc ?_
  simp[go_sem]
  refine Q5 hbc ?_
  simp[go_sem,V3.enc,V3.cs,L1w.r]
 rw[if_neg hv]
 rw[decide_eq_true hv]at hbc
 by_cases hz:(bLo m.verts).z<0
 ·rw[if_pos hz]
  refine CallIs.res (r:=.t [.nil,.i .i64 8]) ?_ (hnil _)
  refine PureC.is (Q8 hm hf (qj rfl) ?_) rfl
  unfold L1w.c
  simp[go_sem,Mesh.enc,Mesh.cs,Sett.enc,Sett.cs]
  refine Q5 hcc ?_
  simp[go_sem]
  refine Q5 hbc ?_
  simp[go_sem,V3.enc,V3.cs,hz,L1w.r]
 rw[if_neg hz]
 have hzb:=bHi_bd hv λv hv=>Qkf (Mesh.check_zero.1 hmc).2.2.1 hv
 have hhc:=hh (bHi m.verts).z s.height (by omega) (by omega)
 have hhl:=Qbi (bHi m.verts).z s.height
 generalize Q0e (bHi m.verts).z s.height=H at *
 obtain⟨zs,e⟩:=H
 simp only at hhc hhl ⊢
 by_cases he:e=0
 case neg =>
  rw[if_pos he]
  have heb:(e != 0)=true:=by simpa using he
  refine CallIs.res (r:=.t [.nil,.i .i64 e]) ?_ (hnil _)
  refine PureC.is (Q8 hm hf (qj rfl) ?_) rfl
  unfold L1w.c
  simp[go_sem,Mesh.enc,Mesh.cs,Sett.enc,Sett.cs]
  refine Q5 hcc ?_
  simp[go_sem]
  refine Q5 hbc ?_
  simp[go_sem,V3.enc,V3.cs,hz]
  refine Q5 hhc ?_
  simp[go_sem,he,heb,L1w.r]
 rw[if_neg (by simp[he])]
 subst he
 refine CallIs.res (r:=.t [if (Kl m s.pitch zs).2≠0 then .nil else Jy (Kl m s.pitch zs).1,.i .i64 (Kl m s.pitch zs).2]) ?_ (by
  by_cases h1:(Kl m s.pitch zs).2=0
  ·rw[if_neg (by simp[h1])]
   exact Le.refl _
  ·rw[if_pos h1]
   have h2:(Kl m s.pitch zs).1=[]:=by
    by_cases h3:∀z∈zs,(Zb m z s.pitch).2=0
    ·rw[I6 h3]at h1
     simp at h1
    ·cases zs with
     | nil=>rfl
     | cons z zs =>
       unfold Kl at h1 ⊢
       split
       ·rfl
       ·split
        ·rfl
        ·rename_i q1 q2
         rw[if_neg q1,if_neg q2]at h1
         simp at h1
   rw[h2]
   exact hnil _)
 refine PureC.is (Q8 hm hf (qj rfl) ?_) rfl
 unfold L1w.c
 simp[go_sem,Mesh.enc,Mesh.cs,Sett.enc,Sett.cs]
 refine Q5 hcc ?_
 simp[go_sem]
 refine Q5 hbc ?_
 simp[go_sem,V3.enc,V3.cs,hz]
 refine Q5 hhc ?_
 simp[go_sem,isV]
 obtain⟨T,hT⟩:∃T:Nat->List (List Rw),∀i,T i=(zs.take i).map λz=>(Zb m z s.pitch).1:=⟨_,λ_=>rfl⟩
 have hT0:T 0=[]:=by rw[hT];rfl
 have hTl:∀i,i<=zs.length->(T i).length=i:=λi hi=>by rw[hT,List.length_map,qx];omega
 refine Z0 [.t 12 1] (α:=Nat) (λi=>i<=zs.length/\∀z∈zs.take i,(Zb m z s.pitch).2=0)
  (λi=>⟨[(2,.p 0 1 0 0),(3,.p 1 1 0 0),(12,.own 4 (i+1) 0 (T i).length),(44,isV zs),(45,.i .i64 zs.length),(46,.i .i64 i)],[.arr 1 2 [m.cs],.arr 1 20 [s.cs],.dead,.dead,.arr (i+1) 1 ((T i).map rgE)]⟩)
  (λi=>zs.length-i) 0 ⟨Nat.zero_le _,by simp⟩ ?_ ?_
 ·simp[go_sem,isV,hT0,Mesh.cs,Sett.cs]
  exact⟨rfl,rfl⟩
 rintro i ⟨hi,hok⟩
 have hTi:=hTl i hi
 by_cases hil:i=zs.length
 ·subst hil
  rw[qk]at hok
  have hall:=I6 hok
  have hTn:T zs.length=zs.map λz=>(Zb m z s.pitch).1:=by rw[hT,qk]
  rw[hall,<- hTn]
  have ht:List.take zs.length ((T zs.length).map rgE)=(T zs.length).map rgE:=qg (by simp[hTi])
  generalize T zs.length=L at *
  simp (disch:=omega) [go_sem,isV,hTi,ht,Xf,L1w.r]
  rw[if_pos (Qfo L)];rfl
 have hlt:i<zs.length:=by omega
 have hq:zs[i]?=some zs[i]:=qb hlt
 have hTs:T (i+1)=T i++[(Zb m zs[i] s.pitch).1]:=by rw[hT,hT,Qc hq,qy];rfl
 have hsc:=hs m zs[i] s.pitch
 have hbad:=Qaj (m:=m) (k:=s.pitch) hq hok
 have hnext:(Zb m zs[i] s.pitch).2=0->∀z∈zs.take (i+1),(Zb m z s.pitch).2=0:=λh z hz=>by
  rw[Qc hq]at hz
  rcases qi.1 hz with hz | hz
  ·exact hok z hz
  ·rw[qp.1 hz];exact h
 generalize Zb m zs[i] s.pitch=R at *
 obtain⟨g,e⟩:=R
 simp only at hTs hsc hbad hnext
 generalize zs[i]=z at *
 obtain⟨_,hq'⟩:=qa.1 hq
 simp only[Mesh.enc,Mesh.cs,rgV]at hsc
 have htk:List.take i ((T i).map rgE)=(T i).map rgE:=qg (by simp[hTi])
 simp (disch:=omega) [go_sem,isV,hlt,hq,hq',Mesh.cs,Sett.cs,Q3]
 refine Q5 hsc ?_
 by_cases he:e=0
 ·subst he
  have hnx:=hnext rfl
  simp (disch:=omega) [go_sem,isV,hTi,htk,V.cells,V.okA,Q3]
  exact⟨⟨by omega,by omega⟩,i+1,⟨by omega,hnx⟩,by omega,⟨⟨rfl,by rw[hTs];simp[hTi]⟩,by omega⟩,⟨rfl,rfl⟩,⟨rfl,by rw[hTs];simp[rgE,rwL]⟩,Q7t _ _⟩
 ·have heb:(e != 0)=true:=by simpa using he
  rw[hbad he]
  simp (disch:=omega) [go_sem,isV,he,heb,V.cells,V.okA,L1w.r]
end
theorem Qhn (l:List Int):(Zq l).Pairwise λx y=>x<=y:=by
 have:=List.pairwise_mergeSort (le:=λx y:Int=>decide (x<=y)) (by intro a b c;simp;omega) (by intro a b;simp;omega) l
 exact this.imp λh=>by simpa using h
theorem Q2x (l:List Int):(Zq l).Perm l:=List.mergeSort_perm _ _
def Xs (g:List Rw) (y:Int):List Rn:=((g.find? λw=>decide (w.y=y)).map Rw.rs).getD []
theorem Bt {g:List Rw} (hg:RgV g) {w:Rw} (hw:w∈g):Xs g w.y=w.rs:=by
 unfold Xs
 cases hf:g.find? λv=>decide (v.y=w.y) with
 | none =>
   have:=List.find?_eq_none.1 hf w hw
   simp at this
 | some v =>
   have h1:=List.mem_of_find?_eq_some hf
   have h2:v.y=w.y:=by simpa using List.find?_some hf
   rw[hg.uniq h1 hw h2];rfl
theorem Bu {g:List Rw} {y:Int} (h:∀w∈g,w.y≠y):Xs g y=[]:=by
 unfold Xs
 rw[List.find?_eq_none.2 λw hw=>by simpa using h w hw];rfl
theorem Iy {g:List Rw} (hg:RgV g) {y x:Int}:Qf (Xs g y) x↔Wf g y x:=by
 by_cases h:∃w∈g,w.y=y
 ·obtain⟨w,hw,rfl⟩:=h
  rw[Bt hg hw,hg.row hw]
 ·have h2:∀w∈g,w.y≠y:=λw hw he=>h ⟨w,hw,he⟩
  rw[Bu h2]
  constructor
  ·intro h3;exact absurd h3 (Qk _)
  ·rintro⟨w,hw,he,_⟩;exact absurd he (h2 w hw)
theorem Q7s {g:List Rw} (hg:RgV g) (hb:RgB g) (y:Int):RnsV (Xs g y)/\RnI (Xs g y):=by
 by_cases h:∃w∈g,w.y=y
 ·obtain⟨w,hw,rfl⟩:=h
  rw[Bt hg hw]
  exact⟨hg.rs w hw,hb.rnb hg hw⟩
 ·rw[Bu λw hw he=>h ⟨w,hw,he⟩]
  exact⟨RnsV.nil,by simp[RnI]⟩
theorem CallIs.lel {P:Program} {f:FuncId} {us vs:List V} {r:V} (hl:LeL Le us vs) (h:CallIs P f vs r):CallIs P f us r:=λhh J m w cargs hr hp =>
 h hh J m w cargs hr (LeL.pw (R:=Le) (Q:=RV J m w) (λu v c h1 h2=>h1.rv h2) hl hp)
def UniC (P:Program) (f:FuncId):Prop:=∀a b:List Rw,RgV a->RgV b->RgB a->RgB b->CallIs P f [rgV a,rgV b] (rgV (K6 a b))
end Go.Abs
