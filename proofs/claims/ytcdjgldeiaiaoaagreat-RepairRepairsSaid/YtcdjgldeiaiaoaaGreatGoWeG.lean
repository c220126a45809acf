/- Part of the library on which the proof stands: an abstract machine, its values and its soundness against the model; or what functions of the program do to such values. -/
import Derived.Test.YtcdjgldeiaiaoaaGreatGoOz
import Derived.Test.YtcdjgldeiaiaoaaGreatGoRb
set_option linter.unusedVariables false
set_option linter.unusedSimpArgs false
namespace Go.Abs
def ref04_Det.c (ref04_small ref04_Cross ref04_Dot:FuncId):C :=(.seq (.reg [⟨some 3,none,.box (.t 0)⟩,⟨some 4,none,.box (.t 1)⟩,⟨some 5,none,.box (.t 2)⟩,⟨some 6,none,.mv (.c (.i .i64 0))⟩]) (.seq (.seq (.reg [⟨some 7,none,.ld (some 3) (.t 3)⟩,⟨some 8,none,.call ref04_small [.t 7]⟩,⟨some 9,none,.un .not (.t 8)⟩,⟨some 10,none,.mv (.t 9)⟩,⟨some 11,(some (10,false)),.ld (some 3) (.t 4)⟩,⟨some 12,(some (10,false)),.call ref04_small [.t 11]⟩,⟨some 13,(some (10,false)),.un .not (.t 12)⟩,⟨some 14,none,.pick (.t 10) (.c (.b true)) (.t 13)⟩,⟨some 15,none,.mv (.t 14)⟩,⟨some 16,(some (15,false)),.ld (some 3) (.t 5)⟩,
 ⟨some 17,(some (15,false)),.call ref04_small [.t 16]⟩,⟨some 18,(some (15,false)),.un .not (.t 17)⟩,⟨some 19,none,.pick (.t 15) (.c (.b true)) (.t 18)⟩]) (.ite (.t 19) (.seq (.reg [⟨some 6,none,.mv (.c (.i .i64 0))⟩]) .ret) .skip)) (.seq (.drw [⟨some 20,none,.ld (some 3) (.t 3)⟩,⟨some 21,none,.ld (some 3) (.t 4)⟩,⟨some 22,none,.ld (some 3) (.t 5)⟩,⟨some 23,none,.call ref04_Cross [.t 21,.t 22]⟩,⟨some 24,none,.call ref04_Dot [.t 20,.t 23]⟩,⟨some 6,none,.mv (.t 24)⟩] [[],[],[],[0],[],[]]) .ret)))
def ref04_Det.r:List Rr:=[.tmp 6]
abbrev ref04_Det.n:Nat:=25
def ref04_small.c (ref04_within:FuncId):C :=(.seq (.reg [⟨some 1,none,.box (.t 0)⟩,⟨some 2,none,.mv (.c (.b false))⟩]) (.seq (.reg [⟨some 3,none,.ld (some 3) (.t 1)⟩,⟨some 4,none,.call ref04_within [.t 3,(.c (.i .i64 131072))]⟩,⟨some 2,none,.mv (.t 4)⟩]) .ret))
def ref04_small.r:List Rr:=[.tmp 2]
abbrev ref04_small.n:Nat:=5
def ref04_Dot.c (ref04_small ref04_within:FuncId):C :=(.seq (.reg [⟨some 2,none,.box (.t 0)⟩,⟨some 3,none,.box (.t 1)⟩,⟨some 4,none,.mv (.c (.i .i64 0))⟩]) (.seq (.seq (.reg [⟨some 5,none,.ld (some 3) (.t 2)⟩,⟨some 6,none,.call ref04_small [.t 5]⟩,⟨some 7,none,.un .not (.t 6)⟩,⟨some 8,none,.mv (.t 7)⟩,⟨some 9,(some (8,false)),.ld (some 3) (.t 3)⟩,⟨some 10,(some (8,false)),.call ref04_within [.t 9,(.c (.i .i64 1099511627776))]⟩,⟨some 11,(some (8,false)),.un .not (.t 10)⟩,⟨some 12,none,.pick (.t 8) (.c (.b true)) (.t 11)⟩]) (.ite (.t 12) (.seq (.reg [⟨some 4,none,.mv (.c (.i .i64 0))⟩]) .ret) .skip))
 (.seq (.reg [⟨some 13,none,.fa 0 (.t 2)⟩,⟨some 14,none,.ld none (.t 13)⟩,⟨some 15,none,.fa 0 (.t 3)⟩,⟨some 16,none,.ld none (.t 15)⟩,⟨some 17,none,.bin .mul (.t 14) (.t 16)⟩,⟨some 18,none,.fa 1 (.t 2)⟩,⟨some 19,none,.ld none (.t 18)⟩,⟨some 20,none,.fa 1 (.t 3)⟩,⟨some 21,none,.ld none (.t 20)⟩,⟨some 22,none,.bin .mul (.t 19) (.t 21)⟩,⟨some 23,none,.bin .add (.t 17) (.t 22)⟩,⟨some 24,none,.fa 2 (.t 2)⟩,⟨some 25,none,.ld none (.t 24)⟩,⟨some 26,none,.fa 2 (.t 3)⟩,⟨some 27,none,.ld none (.t 26)⟩,⟨some 28,none,.bin .mul (.t 25) (.t 27)⟩,⟨some 29,none,.bin .add (.t 23) (.t 28)⟩,⟨some 4,none,.mv (.t 29)⟩])
 .ret)))
def ref04_Dot.r:List Rr:=[.tmp 4]
abbrev ref04_Dot.n:Nat:=30
def ref04_Cross.c (ref04_small:FuncId):C :=(.seq (.reg [⟨some 2,none,.box (.t 0)⟩,⟨some 3,none,.box (.t 1)⟩,⟨some 4,none,.alloc [(.i .i64 0),(.i .i64 0),(.i .i64 0)]⟩]) (.seq (.seq (.reg [⟨some 5,none,.ld (some 3) (.t 2)⟩,⟨some 6,none,.call ref04_small [.t 5]⟩,⟨some 7,none,.un .not (.t 6)⟩,⟨some 8,none,.mv (.t 7)⟩,⟨some 9,(some (8,false)),.ld (some 3) (.t 3)⟩,⟨some 10,(some (8,false)),.call ref04_small [.t 9]⟩,⟨some 11,(some (8,false)),.un .not (.t 10)⟩,⟨some 12,none,.pick (.t 8) (.c (.b true)) (.t 11)⟩]) (.ite (.t 12) (.seq (.reg [⟨some 13,none,.build [(.i .i64 0),(.i .i64 0),(.i .i64 0)] []⟩,
 ⟨none,none,.st 3 (.t 4) (.t 13)⟩]) .ret) .skip)) (.seq (.reg [⟨some 14,none,.fa 1 (.t 2)⟩,⟨some 15,none,.ld none (.t 14)⟩,⟨some 16,none,.fa 2 (.t 3)⟩,⟨some 17,none,.ld none (.t 16)⟩,⟨some 18,none,.bin .mul (.t 15) (.t 17)⟩,⟨some 19,none,.fa 2 (.t 2)⟩,⟨some 20,none,.ld none (.t 19)⟩,⟨some 21,none,.fa 1 (.t 3)⟩,⟨some 22,none,.ld none (.t 21)⟩,⟨some 23,none,.bin .mul (.t 20) (.t 22)⟩,⟨some 24,none,.bin .sub (.t 18) (.t 23)⟩,⟨some 25,none,.fa 2 (.t 2)⟩,⟨some 26,none,.ld none (.t 25)⟩,⟨some 27,none,.fa 0 (.t 3)⟩,⟨some 28,none,.ld none (.t 27)⟩,⟨some 29,none,.bin .mul (.t 26) (.t 28)⟩,⟨some 30,none,.fa 0 (.t 2)⟩,
 ⟨some 31,none,.ld none (.t 30)⟩,⟨some 32,none,.fa 2 (.t 3)⟩,⟨some 33,none,.ld none (.t 32)⟩,⟨some 34,none,.bin .mul (.t 31) (.t 33)⟩,⟨some 35,none,.bin .sub (.t 29) (.t 34)⟩,⟨some 36,none,.fa 0 (.t 2)⟩,⟨some 37,none,.ld none (.t 36)⟩,⟨some 38,none,.fa 1 (.t 3)⟩,⟨some 39,none,.ld none (.t 38)⟩,⟨some 40,none,.bin .mul (.t 37) (.t 39)⟩,⟨some 41,none,.fa 1 (.t 2)⟩,⟨some 42,none,.ld none (.t 41)⟩,⟨some 43,none,.fa 0 (.t 3)⟩,⟨some 44,none,.ld none (.t 43)⟩,⟨some 45,none,.bin .mul (.t 42) (.t 44)⟩,⟨some 46,none,.bin .sub (.t 40) (.t 45)⟩,⟨some 47,none,.build [(.i .i64 0),(.i .i64 0),(.i .i64 0)] [(0,1,(.t 24)),(1,1,(.t 35)),(2,1,(.t 46))]⟩,
 ⟨none,none,.st 3 (.t 4) (.t 47)⟩]) .ret)))
def ref04_Cross.r:List Rr:=[.cell 4 (some 3)]
abbrev ref04_Cross.n:Nat:=48
end Go.Abs
set_option linter.unusedVariables false
set_option linter.unusedSimpArgs false
namespace Go.Abs
section
variable {P:Program} (hm:P.follows .mixedOrders=true)
include hm
theorem ref04_small_ok {f fw:FuncId} (hf:Q9 P f (ref04_small.c fw) ref04_small.r ref04_small.n) (hw:Xs P fw):Je P f:=Bj hm hf hw
theorem ref04_Cross_ok {f fs:FuncId} (hf:Q9 P f (ref04_Cross.c fs) ref04_Cross.r ref04_Cross.n) (hs:Je P fs):CrossVC P f:=Bl hm hf hs
theorem ref04_Dot_ok {f fs fw:FuncId} (hf:Q9 P f (ref04_Dot.c fs fw) ref04_Dot.r ref04_Dot.n) (hs:Je P fs) (hw:Xs P fw):DotVC P f:=vec_Dot_ok hm hf hs hw
theorem ref04_Det_ok {f fs fc fd:FuncId} (hf:Q9 P f (ref04_Det.c fs fc fd) ref04_Det.r ref04_Det.n) (hs:Je P fs) (hc:CrossVC P fc) (hd:DotVC P fd):DetC P f:=by
 intro x y z hx hy hz
 refine PureC.is (Q7 hm hf (Nat.le_of_ble_eq_true rfl) ?_) rfl
 unfold ref04_Det.c
 have h0:=hs x
 have h1:=hs y
 have h2:=hs z
 rw[Y6 hx]at h0
 rw[Y6 hy]at h1
 rw[Y6 hz]at h2
 simp[go_sem,V3.enc,V3.cs]at h0 h1 h2 ⊢
 refine Q3 h0 ?_
 simp[go_sem]
 refine Q3 h1 ?_
 simp[go_sem]
 refine Q3 h2 ?_
 simp[go_sem]
 refine Qf (hc y z hy hz) ?_
 simp[go_sem]
 refine Qf (hd x (crs y z) hx (crs_within hy hz)) ?_
 simp[go_sem,ref04_Det.r,det3]
theorem ref07_Volume6_ok {f fc fd:FuncId} (hf:Q9 P f (ref07_Volume6.c fc fd) ref07_Volume6.r ref07_Volume6.n) (hc:Z8 P fc) (hd:DetC P fd):VolC P f:=Ue hm hf hc hd
end
end Go.Abs
set_option linter.unusedVariables false
set_option linter.unusedSimpArgs false
namespace Go.Abs
section
variable {P:Program} (hm:P.follows .mixedOrders=true)
include hm
set_option maxRecDepth 20000 in
set_option maxHeartbeats 4000000 in
theorem ref09_Clean_ok {f fc fd ft:FuncId} (hf:Q9 P f (ref09_Clean.c fc fd ft) ref09_Clean.r ref09_Clean.n) (hc:Z8 P fc) (hd:DegC P fd) (ht:TwinsC P ft):CleanC P f:=by
 intro m
 by_cases hz:m.check=0
 case neg =>
  have he:Qg m=(Zc,0,0,m.check):=by simp[Qg,hz]
  rw[he]
  refine CallIs.res (r:=.t [.a [.nil,.nil],.i .i64 0,.i .i64 0,.i .i64 m.check]) ?_ (cleanV_no m.check)
  refine PureC.is (Q7 hm hf (Nat.le_of_ble_eq_true rfl) ?_) rfl
  unfold ref09_Clean.c
  simp[go_sem,Mesh.enc,Mesh.cs,vsV,tsV]
  refine Q3 (hc m) ?_
  simp[go_sem,hz,ref09_Clean.r]
 have he:Qg m=(m.cleanM,(((Z0 m.deg m.tris).deg:Nat):Int),(((Z0 m.deg m.tris).twin:Nat):Int),0):=by simp[Qg,hz]
 rw[he]
 obtain⟨z1,z2,z3,z4⟩:=Mesh.check_zero.1 hz
 refine PureC.is (Q7 hm hf (Nat.le_of_ble_eq_true rfl) ?_) rfl
 unfold ref09_Clean.c
 simp[go_sem,Mesh.enc,Mesh.cs,vsV,tsV]
 refine Q3 (hc m) ?_
 simp[go_sem,hz]
 refine⟨⟨by omega,by omega⟩,?_⟩
 refine Qq [.c 3 0 1 3] (α:=Nat) (λk=>k<=m.tris.length)
  (λk=>⟨[(1,.p 0 1 0 0),(2,.p 1 1 0 0),(7,.p 3 1 0 0),(8,.i .i64 (Z0 m.deg (m.tris.take k)).deg),(9,.i .i64 (Z0 m.deg (m.tris.take k)).twin),(10,.i .i64 k)],
   [.arr 1 2 [m.cs],.arr 1 2 [[.nil,.nil]],.arr 1 3 (m.verts.map V3.cs),.arr 1 2 [[.own 2 1 0 m.verts.length,.own 4 ((Z0 m.deg (m.tris.take k)).out.length+1) 0 (Z0 m.deg (m.tris.take k)).out.length]],
    .arr ((Z0 m.deg (m.tris.take k)).out.length+1) 3 ((Z0 m.deg (m.tris.take k)).out.map T3.cs)]⟩)
  (λk=>m.tris.length-k) 0 (Nat.zero_le _) ?_ ?_
 ·simp[go_sem,Mesh.cs,vsV,tsV,Z0]
  done
 ·intro k hk
  by_cases hkl:k=m.tris.length
  ·subst hkl
   rw[List.take_length]
   simp (disch:=omega) [go_sem,Mesh.cs,vsV,tsV,Q0,ref09_Clean.r]
   simp[Ju,Mesh.cleanM,Mesh.enc,Mesh.cs,vsV,tsV]
  ·have hlt:k<m.tris.length:=by omega
   have hp:m.tris[k]?=some m.tris[k]:=List.getElem?_eq_getElem hlt
   have htm:m.tris[k]∈m.tris:=List.getElem_mem _
   generalize m.tris[k]=t at hp htm
   obtain⟨_,hp'⟩:=List.getElem?_eq_some_iff.1 hp
   have hst:=cleanL_succ m.deg hp
   have hok:=cleanL_ok m.deg (m.tris.take k)
   have hsum:=hok.sum
   have hkl2:(m.tris.take k).length=k:=by simp;omega
   rw[hkl2]at hsum
   generalize Z0 m.deg (m.tris.take k)=s at *
   simp (disch:=omega) [go_sem,Mesh.cs,vsV,tsV,hlt]
   have hd1:=hd m k
   simp only[Mesh.enc,Mesh.cs,vsV,tsV]at hd1
   refine Q3 hd1 ?_
   rw[degI_get hz hp]
   unfold Cl.step at hst
   cases hdg:m.deg t
   ·rw[hdg]at hst
    simp only[Bool.false_eq_true,if_false]at hst
    simp (disch:=omega) [go_sem,Mesh.cs,vsV,tsV]
    refine Qe (α:=Nat) (λj=>j<=s.out.length)
     (λj=>⟨[(1,.p 0 1 0 0),(2,.p 1 1 0 0),(7,.p 3 1 0 0),(8,.i .i64 s.deg),(9,.i .i64 s.twin),(10,.i .i64 k),(11,.b ((s.out.take j).any (T3.twins t))),(12,.i .i64 j)],
      [.arr 1 2 [m.cs],.arr 1 2 [[.nil,.nil]],.arr 1 3 (m.verts.map V3.cs),.arr 1 2 [[.own 2 1 0 m.verts.length,.own 4 (s.out.length+1) 0 s.out.length]],
       .arr (s.out.length+1) 3 (s.out.map T3.cs)]⟩)
     (λj=>s.out.length-j) 0 (Nat.zero_le _) ?_ ?_
    ·simp[go_sem,Mesh.cs,vsV,tsV]
     done
    ·intro j hj
     by_cases hjl:j=s.out.length
     ·subst hjl
      rw[List.take_length]
      cases hany:s.out.any (T3.twins t)
      ·rw[hany]at hst
       simp only[Bool.false_eq_true,if_false]at hst
       simp (disch:=omega) [go_sem,Mesh.cs,vsV,tsV,hlt,hp',tcs,Q0]
       refine⟨⟨by omega,by omega⟩,k+1,by omega,by omega,?_⟩
       rw[hst]
       simp[Qp,T3.enc,tcs,V.cl,V.cl1,V.cl0]
      ·rw[hany]at hst
       simp only[if_true]at hst
       simp (disch:=omega) [go_sem,Mesh.cs,vsV,tsV,Q0]
       refine⟨k+1,by omega,by omega,?_⟩
       rw[hst]
       simp[Qp,T3.enc,tcs,V.cl,V.cl1,V.cl0]
     ·have hjt:j<s.out.length:=by omega
      have hq:s.out[j]?=some s.out[j]:=List.getElem?_eq_getElem hjt
      generalize s.out[j]=u at hq
      obtain⟨_,hq'⟩:=List.getElem?_eq_some_iff.1 hq
      have hts:(s.out.take (j+1)).any (T3.twins t)=((s.out.take j).any (T3.twins t) || t.twins u):=by rw[List.take_add_one,hq];simp
      cases hany:(s.out.take j).any (T3.twins t)
      ·rw[hany]at hts
       simp (disch:=omega) [go_sem,Mesh.cs,vsV,tsV,hlt,hp',hq',hjt,tcs,Q0]
       have ht1:=ht t u
       simp only[T3.enc,tcs]at ht1
       refine Qf ht1 ?_
       simp (disch:=omega) [go_sem,Mesh.cs,vsV,tsV,Q0]
       refine⟨j+1,by omega,by omega,?_⟩
       rw[hts]
       simp[Qp,T3.enc,tcs,V.cl,V.cl1,V.cl0]
      ·rw[hany]at hts
       simp (disch:=omega) [go_sem,Mesh.cs,vsV,tsV,hlt,hjt,Q0]
       exact⟨j+1,by omega,by omega,List.any_eq_true.1 (by rw[hts];rfl),by simp⟩
   ·rw[hdg]at hst
    simp only[if_true]at hst
    simp (disch:=omega) [go_sem,Mesh.cs,vsV,tsV,Q0]
    refine⟨k+1,by omega,by omega,?_⟩
    rw[hst]
    simp[Qp,T3.enc,tcs,V.cl,V.cl1,V.cl0]
end
end Go.Abs
