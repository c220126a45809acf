/- Part of the library on which the proof stands: an abstract machine, its values and its soundness against the model; or what functions of the program do to such values. -/
import Derived.Test.YtnaehggpjfdenaaGreatGoOw
import Derived.Test.YtnaehggpjfdenaaGreatGoRsD
import Derived.Test.YtnaehggpjfdenaaGreatGoTal
import Derived.Test.YtnaehggpjfdenaaGreatGoShpD
import Derived.Test.YtnaehggpjfdenaaGreatGoOri
import Derived.Test.YtnaehggpjfdenaaGreatGoRevC
import Derived.Test.YtnaehggpjfdenaaGreatGoSo
import Derived.Test.YtnaehggpjfdenaaGreatGoRsA
import Derived.Test.YtnaehggpjfdenaaGreatGoLpB
set_option linter.unusedVariables false
set_option linter.unusedSimpArgs false
set_option maxHeartbeats 4000000
namespace Go.Abs
theorem Q8q (t:T3):(Q8 t).Nodup:=by
 have h0:Q8 t=(Kh t).filter λe=>decide (e.x≠e.y):=rfl
 rw[h0,List.nodup_iff_pairwise_ne,List.pairwise_filter]
 unfold Kh
 simp only[jd,List.mem_cons,List.not_mem_nil,or_false,decide_eq_true_eq,ne_eq,false_implies,implies_true,List.Pairwise.nil,and_true,P2.mk.injEq]
 refine⟨λx hx h1 h2=>?_,λx hx h1 h2=>?_⟩
 ·rcases hx with rfl | rfl
  ·simp only[P2.mk.injEq];simp only at h1 h2;omega
  ·simp only[P2.mk.injEq];simp only at h1 h2;omega
 ·subst hx
  simp only[P2.mk.injEq];simp only at h1 h2;omega
def Coh (ts:List T3):Prop:=∀(i j:Nat) (e:P2),i<ts.length->j<ts.length->e∈Q8 (tAt ts i)->e∈Q8 (tAt ts j)->i=j
theorem Q0i {ts:List T3} {i:Nat} (h:i<ts.length):ts[i]=tAt ts i:=by
 have:=Zr h
 rw[q9 h]at this
 exact Option.some.inj this
theorem coh_iff {ts:List T3}:(Qd ts).Nodup↔Coh ts:=by
 have h0:(Qd ts).Nodup↔(∀t∈ts,(Q8 t).Nodup)/\ts.Pairwise λs t=>∀x∈Q8 s,∀y∈Q8 t,x≠y:=List.pairwise_flatMap
 rw[h0,j8]
 constructor
 ·rintro⟨_,h⟩ i j e hi hj h1 h2
  rcases Nat.lt_trichotomy i j with hh | hh | hh
  ·exact absurd rfl (h i j hi hj hh e (by rw[Q0i hi];exact h1) e (by rw[Q0i hj];exact h2))
  ·exact hh
  ·exact absurd rfl (h j i hj hi hh e (by rw[Q0i hj];exact h2) e (by rw[Q0i hi];exact h1))
 ·intro h
  refine⟨λt _=>Q8q t,λi j hi hj hij x hx y hy=>?_⟩
  rintro rfl
  rw[Q0i hi]at hx
  rw[Q0i hj]at hy
  have:=h i j x hi hj hx hy
  omega
theorem cohB_iff {ts:List T3}:Q1t ts=true↔Coh ts:=by unfold Q1t;rw[decide_eq_true_eq];exact coh_iff
theorem Qte {ts:List T3} {i j:Nat} (hi:i<ts.length) (hj:j<ts.length) {a b:P2} (ha:a∈Q8 (tAt ts i)) (hb:b∈Q8 (tAt ts j)) (h:a.und=b.und):adjI ts i j :=
 ⟨_,_,Zr hi,Zr hj,a,ha,b,hb,h⟩
theorem mem_all {ts:List T3} {e:P2}:e∈Qd ts↔∃i:Nat,i<ts.length/\e∈Q8 (tAt ts i):=by
 unfold Qd
 rw[jq]
 constructor
 ·rintro⟨t,ht,he⟩
  obtain⟨i,hi⟩:=qq ht
  have hl:=(q8.1 hi).1
  rw[Zr hl]at hi
  obtain rfl:=Option.some.inj hi
  exact⟨i,hl,he⟩
 ·rintro⟨i,hl,he⟩
  exact⟨_,qb (Zr hl),he⟩
def Clo (ts:List T3):Prop:=∀e∈Qd ts,e.rev∈Qd ts
theorem Qi8 {m:Mesh} (hz:m.check=0) (hc:Coh m.tris) (h:Clo m.tris):m.closed=true:=by
 unfold Mesh.closed
 simp only[Bool.and_eq_true,decide_eq_true_eq]
 refine⟨hz,?_⟩
 rw[List.eq_nil_iff_forall_not_mem]
 intro e he
 rw[mem_border]at he
 obtain⟨_,h1,h2⟩:=he
 unfold Mesh.use at h2
 rw[if_pos hz,if_pos hz]at h2
 have h3:=List.nodup_iff_count.1 (coh_iff.2 hc) e
 have h4:0<(Qd m.tris).count e.rev:=List.count_pos_iff.2 (h e h1)
 omega
def Mesh.coh (m:Mesh):Bool:=decide (m.check=0) && Q1t m.tris
def Q28 (P:Program) (f:FuncId):Prop:=∀m:Mesh,CallIs P f [m.enc] (.b m.coh)
section
variable {P:Program} (hm:P.follows .mixedOrders=true)
include hm
theorem Ia {f fc fh:FuncId} (hf:Q9 P f (L0i.c fc fh) L0i.r L0i.n) (hc:X6 P fc) (hh:CohC P fh):Q28 P f:=by
 intro m
 refine PureC.is (Q6 hm hf (qh rfl) ?_) rfl
 unfold L0i.c
 simp[go_sem,Mesh.enc,Mesh.cs]
 refine Q4 (hc m) ?_
 by_cases h:m.check=0
 ·have hl:=(Mesh.check_zero.1 h).2.1
  simp[go_sem,h]
  refine Q4 (hh m.tris (by omega)) ?_
  simp[go_sem,L0i.r,Mesh.coh,h]
 ·have h':(m.check == 0)=false:=by simpa using h
  simp[go_sem,h,h',L0i.r,Mesh.coh]
end
theorem Mesh.v_valid {m:Mesh} (h:J9 m.verts=true) {i:Int} (hi:i<m.verts.length):(m.v i).valid=true:=by
 unfold Mesh.v
 cases hp:m.verts[i.toNat]? with
 | none=>rfl
 | some p=>exact Qde h hp
def V3.sub (a b:V3):V3:=⟨a.x-b.x,a.y-b.y,a.z-b.z⟩
def V3.crs (a b:V3):V3:=⟨a.y*b.z-a.z*b.y,a.z*b.x-a.x*b.z,a.x*b.y-a.y*b.x⟩
def Ud (a b c:V3):Bool:=a.valid && (b.valid && (c.valid && decide ((b.sub a).crs (c.sub a)=⟨0,0,0⟩)))
def Mesh.deg (m:Mesh) (t:T3):Bool:=Ud (m.v t.a) (m.v t.b) (m.v t.c)
def L3a.c (L0e L32:FuncId):C :=(.seq (.reg [Au 2 (.box (.t 0)),Ab 4 false]) (.seq (.reg [Ag 10 2 2,Am 11 1,Au 12 (.call L0e [.t 10,.t 11]),Am 9 12,Ax1 13 0 9,Ax1 14 1 9,Ax1 15 2 9,Ax1 16 3 9,Au 5 (.alloc [(.i .i64 0),(.i .i64 0),(.i .i64 0)]),Au 6 (.alloc [(.i .i64 0),(.i .i64 0),(.i .i64 0)]),Au 7 (.alloc [(.i .i64 0),(.i .i64 0),(.i .i64 0)]),As 3 5 13,As 3 6 14,As 3 7 15,Am 8 16]) (.seq (.reg [Am 17 8,Am 18 17,Av 19 18 (.ld (some 3) (.t 5)),Av 20 18 (.ld (some 3) (.t 6)),Av 21 18 (.ld (some 3) (.t 7)),Av 22 18 (.call L32 [.t 19,.t 20,.t 21]),Ap 23 18 22,Am 4 23]) .ret)))
def L3a.r:List Rr:=[.tmp 4]
abbrev L3a.n:Nat:=24
def L32.c (L37 L36 L33:FuncId):C :=(.seq (.reg [Au 3 (.box (.t 0)),Au 4 (.box (.t 1)),Au 5 (.box (.t 2)),Ab 6 false]) (.seq (.drw [Ag 7 3 3,Au 8 (.call L37 [.t 7]),Am 9 8,Av 10 9 (.ld (some 3) (.t 4)),Av 11 9 (.call L37 [.t 10]),Ap 12 9 11,Am 13 12,Av 14 13 (.ld (some 3) (.t 5)),Av 15 13 (.call L37 [.t 14]),Ap 16 13 15,Am 17 16,Av 18 17 (.ld (some 3) (.t 4)),Av 19 17 (.ld (some 3) (.t 3)),Av 20 17 (.call L36 [.t 18,.t 19]),Av 21 17 (.ld (some 3) (.t 5)),Av 22 17 (.ld (some 3) (.t 3)),Av 23 17 (.call L36 [.t 21,.t 22]),Av 24 17 (.call L33 [.t 20,.t 23]),Av 25 17 (.build [(.i .i64 0),(.i .i64 0),(.i .i64 0)] []),
 Av 26 17 (.eqa [1,1,1] false (.t 24) (.t 25)),Ap 27 17 26,Am 6 27] [[],[],[],[],[],[],[],[],[],[],[],[],[],[],[13],[13],[],[],[],[],[],[]]) .ret))
def L32.r:List Rr:=[.tmp 6]
abbrev L32.n:Nat:=28
def L36.c (L37:FuncId):C :=(.seq (.reg [Au 2 (.box (.t 0)),Au 3 (.box (.t 1)),Au 4 (.alloc [(.i .i64 0),(.i .i64 0),(.i .i64 0)])]) (.seq (.seq (.reg [Ag 5 3 2,Au 6 (.call L37 [.t 5]),Au 7 (.un .not (.t 6)),Am 8 7,Aw 9 8 (.ld (some 3) (.t 3)),Aw 10 8 (.call L37 [.t 9]),Aw 11 8 (.un .not (.t 10)),Ao 12 8 11]) (.ite (.t 12) (.seq (.reg [Au 13 (.build [(.i .i64 0),(.i .i64 0),(.i .i64 0)] []),As 3 4 13]) .ret) .skip)) (.seq (.reg [Af 14 0 2,Al 15 14,Af 16 0 3,Al 17 16,Aj .sub 18 15 17,Af 19 1 2,Al 20 19,Af 21 1 3,Al 22 21,Aj .sub 23 20 22,Af 24 2 2,Al 25 24,Af 26 2 3,Al 27 26,Aj .sub 28 25 27,Au 29 (.build [(.i .i64 0),(.i .i64 0),(.i .i64 0)] [(0,1,(.t 18)),(1,1,(.t 23)),(2,1,(.t 28))]),
 As 3 4 29]) .ret)))
def L36.r:List Rr:=[.cell 4 (some 3)]
abbrev L36.n:Nat:=30
end Go.Abs
namespace Go.Abs
open Go.Sort
instance:Inhabited V3:=⟨⟨0,0,0⟩⟩
def Qtn (P:Program) (f:FuncId):Prop:=∀a b:V3,a.valid=true->b.valid=true->CallIs P f [a.enc,b.enc] (a.sub b).enc
def Qkg (P:Program) (f:FuncId):Prop:=∀a b:V3,a.within 131072=true->b.within 131072=true->CallIs P f [a.enc,b.enc] (a.crs b).enc
def Qcr (P:Program) (f:FuncId):Prop:=∀a:V3,CallIs P f [a.enc] (.b (a.within 131072))
def Quw (P:Program) (f:FuncId):Prop:=∀a b c:V3,CallIs P f [a.enc,b.enc,c.enc] (.b (Ud a b c))
section
variable {P:Program} (hm:P.follows .mixedOrders=true)
include hm
theorem Qgc {f fv:FuncId} (hf:Q9 P f (L36.c fv) L36.r L36.n) (hv:K6 P fv):Qtn P f:=by
 intro a b h1 h2
 have g1:=V3.valid_iff.1 h1
 have g2:=V3.valid_iff.1 h2
 refine PureC.is (Q6 hm hf (qh rfl) ?_) rfl
 unfold L36.c
 simp[go_sem,V3.enc,vcs]
 refine Q4 (hv a) ?_
 simp[go_sem,h1]
 refine Q4 (hv b) ?_
 simp (disch:=omega) [go_sem,h2,Q0,L36.r,V3.sub]
theorem Q7h {f fw:FuncId} (hf:Q9 P f (L38.c fw) L38.r L38.n) (hw:Jg P fw):Qcr P f:=by
 intro a
 refine PureC.is (Q6 hm hf (qh rfl) ?_) rfl
 unfold L38.c
 simp[go_sem,V3.enc,vcs]
 refine Q4 ((hw a 131072 (by omega) (by omega)).is rfl) ?_
 simp[go_sem,L38.r]
theorem Q7i {f fv:FuncId} (hf:Q9 P f (L33.c fv) L33.r L33.n) (hv:Qcr P fv):Qkg P f:=by
 intro a b h1 h2
 have g1:(-131072<=a.x/\a.x<=131072/\-131072<=a.y/\a.y<=131072/\-131072<=a.z/\a.z<=131072):=by simpa[V3.within,and_assoc]using h1
 have g2:(-131072<=b.x/\b.x<=131072/\-131072<=b.y/\b.y<=131072/\-131072<=b.z/\b.z<=131072):=by simpa[V3.within,and_assoc]using h2
 have m1:=Qbi (x:=a.y) (y:=b.z) (A:=131072) (B:=131072) (by omega) (by omega) (by omega) (by omega)
 have m2:=Qbi (x:=a.z) (y:=b.y) (A:=131072) (B:=131072) (by omega) (by omega) (by omega) (by omega)
 have m3:=Qbi (x:=a.z) (y:=b.x) (A:=131072) (B:=131072) (by omega) (by omega) (by omega) (by omega)
 have m4:=Qbi (x:=a.x) (y:=b.z) (A:=131072) (B:=131072) (by omega) (by omega) (by omega) (by omega)
 have m5:=Qbi (x:=a.x) (y:=b.y) (A:=131072) (B:=131072) (by omega) (by omega) (by omega) (by omega)
 have m6:=Qbi (x:=a.y) (y:=b.x) (A:=131072) (B:=131072) (by omega) (by omega) (by omega) (by omega)
 refine PureC.is (Q6 hm hf (qh rfl) ?_) rfl
 unfold L33.c
 simp[go_sem,V3.enc,vcs]
 refine Q4 (hv a) ?_
 simp[go_sem,h1]
 refine Q4 (hv b) ?_
 simp (disch:=omega) [go_sem,h2,Q0,L33.r,V3.crs]
omit hm in
theorem Q4p {a b:V3} (h1:a.valid=true) (h2:b.valid=true):(a.sub b).within 131072=true:=by
 have g1:=V3.valid_iff.1 h1
 have g2:=V3.valid_iff.1 h2
 simp only[V3.within,Bool.and_eq_true,decide_eq_true_eq]
 simp only[V3.sub]
 omega
omit hm in
theorem v3_zero (v:V3):decide (v=⟨0,0,0⟩)=(v.x == 0 && (v.y == 0 && v.z == 0)):=by
 cases v;rw[Bool.eq_iff_iff];simp[V3.mk.injEq]
theorem Q0e {f fv fs fc:FuncId} (hf:Q9 P f (L32.c fv fs fc) L32.r L32.n) (hv:K6 P fv) (hs:Qtn P fs) (hc:Qkg P fc):Quw P f:=by
 intro a b c
 refine PureC.is (Q6 hm hf (qh rfl) ?_) rfl
 unfold L32.c
 simp[go_sem,V3.enc,vcs]
 refine Qg (hv a) ?_
 cases h1:a.valid
 ·simp[go_sem,L32.r,Ud,h1]
 simp[go_sem]
 refine Qg (hv b) ?_
 cases h2:b.valid
 ·simp[go_sem,L32.r,Ud,h1,h2]
 simp[go_sem]
 refine Qg (hv c) ?_
 cases h3:c.valid
 ·simp[go_sem,L32.r,Ud,h1,h2,h3]
 simp[go_sem]
 refine Qg (hs b a h2 h1) ?_
 simp[go_sem]
 refine Qg (hs c a h3 h1) ?_
 simp[go_sem]
 refine Qg (hc _ _ (Q4p h2 h1) (Q4p h3 h1)) ?_
 simp[go_sem,V3.enc,vcs,L32.r,Ud,h1,h2,h3,v3_zero]
end
end Go.Abs
namespace Go.Abs
open Go.Sort
def dd (l:List V3):List V3:=l.foldl (λacc v=>if v∈acc then acc else acc++[v]) []
def Mesh.degI (m:Mesh) (i:Int):Bool:=if 0<=i/\i<m.tris.length/\m.check=0 then match m.tris[i.toNat]? with
    | some t=>m.deg t
    | none=>false
 else false
def DegC (P:Program) (f:FuncId):Prop:=∀(m:Mesh) (i:Int),CallIs P f [m.enc,.i .i64 i] (.b (m.degI i))
section
variable {P:Program} (hm:P.follows .mixedOrders=true)
include hm
theorem I0 {f fc fv:FuncId} (hf:Q9 P f (L3a.c fc fv) L3a.r L3a.n) (hc:Q0a P fc) (hv:Quw P fv):DegC P f:=by
 intro m i
 refine PureC.is (Q6 hm hf (qh rfl) ?_) rfl
 unfold L3a.c
 simp[go_sem,Mesh.enc,Mesh.cs]
 refine Q4 (hc m i) ?_
 by_cases h:0<=i/\i<m.tris.length/\m.check=0
 ·obtain⟨t,ht⟩:∃t,m.tris[i.toNat]?=some t:=⟨_,q9 (show i.toNat<m.tris.length by omega)⟩
  have e1:m.corners i=.t [(m.v t.a).enc,(m.v t.b).enc,(m.v t.c).enc,.b true]:=by unfold Mesh.corners;rw[if_pos h,ht]
  have e2:m.degI i=m.deg t:=by unfold Mesh.degI;rw[if_pos h,ht]
  rw[e1,e2]
  simp[go_sem,V3.enc,vcs]
  refine Q4 (hv (m.v t.a) (m.v t.b) (m.v t.c)) ?_
  simp[go_sem,L3a.r,Mesh.deg]
 ·have e1:m.corners i=.t [zV3,zV3,zV3,.b false]:=by unfold Mesh.corners;rw[if_neg h]
  have e2:m.degI i=false:=by unfold Mesh.degI;rw[if_neg h]
  rw[e1,e2]
  simp[go_sem,zV3,L3a.r]
end
def V3.inR (v:V3):Bool:=inI v.x && inI v.y && inI v.z
def Ql:List T3:=[⟨0,2,3⟩,⟨0,3,1⟩,⟨4,5,7⟩,⟨4,7,6⟩,⟨0,1,5⟩,⟨0,5,4⟩,⟨2,6,7⟩,⟨2,7,3⟩,⟨0,4,6⟩,⟨0,6,2⟩,⟨1,3,7⟩,⟨1,7,5⟩]
def Qfr (p s:V3):V :=
 if s.x<1∨s.y<1∨s.z<1 then Q6d Q6c 1
 else if p.valid=true/\(p.add s).valid=true then Q6d ⟨Qe p s,Ql⟩ 0
 else Q6d Q6c 8
def BoxC (P:Program) (f:FuncId):Prop:=∀p s:V3,p.inR=true->s.inR=true->CallIs P f [p.enc,s.enc] (Qfr p s)
theorem Qdf (p:V3):J9 [p]=p.valid:=by simp[J9]
theorem Q7f {p s:V3} (h1:p.valid=true) (h2:(p.add s).valid=true):s.within 131072=true:=by
 have a1:=V3.valid_iff.1 h1
 have a2:=V3.valid_iff.1 h2
 simp only[V3.add]at a2
 rw[within_iff];omega
section
variable {P:Program} (hm:P.follows .mixedOrders=true)
include hm
theorem Q7o {f ff fn fp fc fl:FuncId} (hf:Q9 P f (L2e.c ff fn fp fc fl) L2e.r L2e.n)
  (hfit:Qix P ff) (hnear:Qud P fn) (hplus:Qke P fp) (hcor:Q27 P fc) (hcl:Qj1 P fl 3):BoxC P f:=by
 intro p s hp hs
 by_cases h1:s.x<1∨s.y<1∨s.z<1
 ·have hb:Qfr p s=Q6d Q6c 1:=by simp[Qfr,h1]
  rw[hb]
  refine CallIs.res (r:=.t [.a [.nil,.nil],.i .i64 1]) ?_ (Q9d 1)
  refine PureC.is (Q6 hm hf (qh rfl) ?_) rfl
  unfold L2e.c
  have h2:min s.x (min s.y s.z)<1:=by omega
  simp[go_sem,V3.enc,V3.cs,U2,h2,L2e.r]
 have h2:¬ min s.x (min s.y s.z)<1:=by omega
 by_cases hok:p.valid=true/\(p.add s).valid=true
 ·have hb:Qfr p s=Q6d ⟨Qe p s,Ql⟩ 0:=by simp[Qfr,h1,hok]
  have hw:=Q7f hok.1 hok.2
  rw[hb]
  refine PureC.is (Q6 hm hf (qh rfl) ?_) rfl
  unfold L2e.c
  simp[go_sem,V3.enc,V3.cs,U2,h2]
  refine Q4 (hfit [p] (by simp)) ?_
  simp[go_sem,Qdf,hok.1]
  refine Q4 (hnear s) ?_
  simp[go_sem,hw]
  refine Q4 (hplus p s) ?_
  rw[Qee hok.1 hw]
  simp[go_sem,V3.enc,V3.cs]
  refine Q4 (hfit [p.add s] (by simp)) ?_
  simp[go_sem,Qdf,hok.2]
  refine Q4 (hcor p s hok.1 hw) ?_
  simp[go_sem,V3.cs,Qe]
  refine Qa9 (hcl _ (by simp[V.isD]) (by simp)) rfl ?_
  simp[go_sem,L2e.r,V3.cs,Q6d,Mesh.enc,Mesh.cs,vsV,tsV,Ql,T3.cs]
 ·have hb:Qfr p s=Q6d Q6c 8:=by simp[Qfr,h1,hok]
  rw[hb]
  refine CallIs.res (r:=.t [.a [.nil,.nil],.i .i64 8]) ?_ (Q9d 8)
  refine PureC.is (Q6 hm hf (qh rfl) ?_) rfl
  unfold L2e.c
  simp[go_sem,V3.enc,V3.cs,U2,h2]
  refine Q4 (hfit [p] (by simp)) ?_
  cases hpv:p.valid
  ·simp[go_sem,Qdf,hpv,L2e.r]
  simp[go_sem,Qdf,hpv]
  refine Q4 (hnear s) ?_
  cases hw:s.within 131072
  ·simp[go_sem,L2e.r]
  simp[go_sem]
  refine Q4 (hplus p s) ?_
  rw[Qee hpv hw]
  simp[go_sem,V3.enc,V3.cs]
  refine Q4 (hfit [p.add s] (by simp)) ?_
  have hav:(p.add s).valid=false:=by rw[Bool.eq_false_iff];exact λh=>hok ⟨hpv,h⟩
  simp[go_sem,Qdf,hav,L2e.r]
end
def mixed {α:Type} (l:List α) (g:α->α) (k:Nat):List α:=(l.take k).map g++l.drop k
noncomputable def Mesh.inv (m:Mesh):Bool:=m.shells.any λsh=>decide (Xa m.verts (Zm m.tris sh)<0)
noncomputable def Ue (m:Mesh):Int :=
 if m.check≠0 then m.check else if m.closed=false then 12 else if Q1t m.tris=false then 13 else if m.tris.any m.deg=true then 1 else if m.inv=true then 1 else 0
structure Snd (m:Mesh):Prop where
 z:m.check=0
 clo:m.closed=true
 coh:Coh m.tris
 deg:∀t∈m.tris,m.deg t=false
 vol:∀sh∈m.shells,0<=Xa m.verts (Zm m.tris sh)
theorem snd_iff {m:Mesh}:Ue m=0↔Snd m:=by
 unfold Ue
 constructor
 ·intro h
  by_cases h1:m.check=0
  case neg=>rw[if_pos h1]at h;exact absurd h h1
  rw[if_neg (by simpa using h1)]at h
  by_cases h2:m.closed=false
  case pos=>rw[if_pos h2]at h;simp at h
  rw[if_neg h2]at h
  by_cases h3:Q1t m.tris=false
  case pos=>rw[if_pos h3]at h;simp at h
  rw[if_neg h3]at h
  by_cases h4:m.tris.any m.deg=true
  case pos=>rw[if_pos h4]at h;simp at h
  rw[if_neg h4]at h
  by_cases h5:m.inv=true
  case pos=>rw[if_pos h5]at h;simp at h
  refine⟨h1,by simpa using h2,cohB_iff.1 (by simpa using h3),?_,?_⟩
  ·intro t ht
   cases hd:m.deg t with
   | false=>rfl
   | true=>exact absurd (List.any_eq_true.2 ⟨t,ht,hd⟩) h4
  ·intro sh hs
   by_cases hn:Xa m.verts (Zm m.tris sh)<0
   ·exact absurd (List.any_eq_true.2 ⟨sh,hs,by simpa using hn⟩) h5
   ·omega
 ·intro h
  have h4:m.tris.any m.deg=false:=by
   rw[List.any_eq_false];intro t ht;rw[h.deg t ht];simp
  have h5:m.inv=false:=by
   unfold Mesh.inv
   rw[List.any_eq_false];intro sh hs;have:=h.vol sh hs;simp;omega
  rw[if_neg (by simpa using h.z),if_neg (by rw[h.clo];simp),if_neg (by rw[cohB_iff.2 h.coh];simp),if_neg (by rw[h4];simp),if_neg (by rw[h5];simp)]
def Qf3 (top h:Int):Nat:=((top-h / 2+h-1) / h).toNat
theorem Qjw {top h:Int} (hh:0<h) {i:Nat}:i<Qf3 top h↔(i:Int)*h+h / 2<top:=by
 unfold Qf3
 have h1:(i:Int)<(top-h / 2+h-1) / h↔(i:Int)*h<top-h / 2:=by
  rw[show ((i:Int)<(top-h / 2+h-1) / h)↔((i:Int)+1<=(top-h / 2+h-1) / h) from Iff.rfl,Int.le_ediv_iff_mul_le hh]
  have:((i:Int)+1)*h=i*h+h:=by grind
  rw[this];omega
 rw[show ((i:Int)*h+h / 2<top)↔((i:Int)*h<top-h / 2) by omega,<- h1]
 omega
def Wa (h:Int) (n:Nat):List Int:=(List.range n).map λ(i:Nat)=>(i:Int)*h+h / 2
theorem Q9j (h:Int) (n:Nat):Wa h (n+1)=Wa h n++[(n:Int)*h+h / 2]:=by simp[Wa,List.range_succ]
theorem U6 (h:Int) (n:Nat):(Wa h n).length=n:=by simp[Wa]
def Q1m (top h:Int):List Int × Int:=if Za h 4 1024=false then ([],1) else if 256<Qf3 top h then ([],2) else (Wa h (Qf3 top h),0)
theorem Qf2 (top h:Int):(Q1m top h).1.length<=256:=by
 unfold Q1m
 split
 ·simp
 ·split
  ·simp
  ·rename_i h1
   simp only[U6];omega
def Q8u (u:V3) (l:List V3):V3:=l.foldl (λa w=>⟨min a.x w.x,min a.y w.y,min a.z w.z⟩) u
def Q1z (u:V3) (l:List V3):V3:=l.foldl (λa w=>⟨max a.x w.x,max a.y w.y,max a.z w.z⟩) u
def bLo:List V3->V3
 | []=>⟨0,0,0⟩
 | v::l=>Q8u v (v::l)
def bHi:List V3->V3
 | []=>⟨0,0,0⟩
 | v::l=>Q1z v (v::l)
theorem Qnf (u:V3) (l:List V3) (w:V3):Q8u u (l++[w])=⟨min (Q8u u l).x w.x,min (Q8u u l).y w.y,min (Q8u u l).z w.z⟩:=by simp[Q8u]
theorem Qng (u:V3) (l:List V3) (w:V3):Q1z u (l++[w])=⟨max (Q1z u l).x w.x,max (Q1z u l).y w.y,max (Q1z u l).z w.z⟩:=by simp[Q1z]
def mxF (f:V3->Int) (a:Int) (l:List V3):Int:=l.foldl (λa w=>max a (f w)) a
theorem Qq3 (f:V3->Int):∀(l:List V3) (a:Int),a<=mxF f a l/\(∀w∈l,f w<=mxF f a l)/\(mxF f a l=a∨∃w∈l,mxF f a l=f w)
 | [],a=>⟨Int.le_refl _,by simp,.inl rfl⟩
 | v::l,a=>by
   have e:mxF f a (v::l)=mxF f (max a (f v)) l:=rfl
   obtain⟨h1,h2,h3⟩:=Qq3 f l (max a (f v))
   rw[e]
   refine⟨by clear h3;omega,λw hw=>?_,?_⟩
   ·rcases List.mem_cons.1 hw with rfl | hw
    ·clear h3;omega
    ·exact h2 w hw
   ·rcases h3 with h3 | ⟨w,hw,h3⟩
    ·rw[h3]
     by_cases c:f v<=a
     ·exact .inl (by omega)
     ·exact .inr ⟨v,by simp,by omega⟩
    ·exact .inr ⟨w,by simp[hw],h3⟩
theorem Qta:∀(l:List V3) (u:V3),(Q1z u l).x=mxF V3.x u.x l/\(Q1z u l).y=mxF V3.y u.y l/\(Q1z u l).z=mxF V3.z u.z l
 | [],u=>⟨rfl,rfl,rfl⟩
 | v::l,u=>Qta l ⟨max u.x v.x,max u.y v.y,max u.z v.z⟩
noncomputable def W5 (m:Mesh) (k:Int):List Int->List (List Rw) × Int
 | []=>([],0)
 | z::zs=>if (Zd m z k).2≠0 then ([],(Zd m z k).2) else if (W5 m k zs).2≠0 then ([],(W5 m k zs).2) else ((Zd m z k).1::(W5 m k zs).1,0)
noncomputable def Jx (m:Mesh) (k h:Int):List (List Rw) × Int :=
 if Ue m≠0 then ([],Ue m) else if m.verts=[] then ([],0) else if (bLo m.verts).z<0 then ([],8) else if (Q1m (bHi m.verts).z h).2≠0 then ([],(Q1m (bHi m.verts).z h).2) else W5 m k (Q1m (bHi m.verts).z h).1
def atR (l:List (List Rw)) (i:Nat):List Rw:=(l[i]?).getD []
noncomputable def Q4k (all l:List (List Rw)):List (List Rw):=(List.range (max all.length l.length)).map λi=>Km (atR all i) (atR l i)
noncomputable def Q77 (k h:Int):List (List Rw)->List Mesh->List (List Rw) × Int
 | acc,[]=>(acc,0)
 | acc,m::ms=>if (Jx m k h).2≠0 then ([],(Jx m k h).2) else Q77 k h (Q4k acc (Jx m k h).1) ms
noncomputable def Uo (ms:List Mesh) (k h:Int):List (List Rw) × Int:=if Za k 32 1024=false∨Za h 4 1024=false then ([],1) else Q77 k h [] ms
def Wr (l:List (List Rw)):Prop:=∀g∈l,RgV g/\RgB g
theorem Qp9 (m:Mesh) (k:Int):∀zs,Wr (W5 m k zs).1/\(W5 m k zs).1.length<=zs.length
 | []=>by simp[W5,Wr]
 | z::zs=>by
   have ih:=Qp9 m k zs
   unfold W5
   split
   ·simp[Wr]
   ·split
    ·simp[Wr]
    ·refine⟨λg hg=>?_,by simp;exact ih.2⟩
     rcases List.mem_cons.1 hg with rfl | hg
     ·exact Qe1 m z k
     ·exact ih.1 g hg
theorem partR_v (m:Mesh) (k h:Int):Wr (Jx m k h).1/\(Jx m k h).1.length<=256:=by
 unfold Jx
 split
 ·simp[Wr]
 ·split
  ·simp[Wr]
  ·split
   ·simp[Wr]
   ·split
    ·simp[Wr]
    ·have h1:=Qp9 m k (Q1m (bHi m.verts).z h).1
     have h2:=Qf2 (bHi m.verts).z h
     exact⟨h1.1,by omega⟩
theorem Qtb {l:List (List Rw)} (h:Wr l) (i:Nat):RgV (atR l i)/\RgB (atR l i):=by
 unfold atR
 cases hq:l[i]? with
 | none=>exact⟨RgV.nil,RgB.nil⟩
 | some g=>exact h g (qb hq)
theorem uniL_v (a l:List (List Rw)):Wr (Q4k a l):=λg hg=>by
 unfold Q4k at hg
 obtain⟨i,_,rfl⟩:=qo.1 hg
 exact⟨Wu _ _,Qgh _ _⟩
theorem Q4j (a l:List (List Rw)):(Q4k a l).length=max a.length l.length:=by simp[Q4k]
theorem Qdl {a l:List (List Rw)} {i:Nat} (h:i<max a.length l.length):(Q4k a l)[i]?=some (Km (atR a i) (atR l i)):=by
 unfold Q4k
 rw[qp,jn h];rfl
theorem Qkj {g:List Rw} (hg:RgV g) (hb:RgB g):Km g []=g :=
 (Wu g []).ext hg λy x=>by
  rw[Q49 hb RgB.nil]
  constructor
  ·rintro (h | ⟨w,hw,_⟩)
   ·exact h
   ·simp at hw
  ·exact .inl
theorem Qol {l:List (List Rw)} (h:Wr l):Q4k [] l=l:=by
 refine qy λi=>?_
 by_cases hi:i<l.length
 ·rw[Qdl (by simp;exact hi)]
  have hq:l[i]?=some l[i]:=q9 hi
  obtain⟨h1,h2⟩:=h _ (qb hq)
  have e1:atR [] i=[]:=rfl
  have e2:atR l i=l[i]:=by unfold atR;rw[hq];rfl
  rw[e1,e2,Qdk h1 h2,hq]
 ·rw[qk (by rw[Q4j];simp;omega),qk (by omega)]
theorem Qfz {k h:Int}:∀{ms:List Mesh} {acc:List (List Rw)},(Q77 k h acc ms).2≠0->(Q77 k h acc ms).1=[]
 | [],acc,hh=>absurd rfl hh
 | m::ms,acc,hh=>by
   unfold Q77 at hh ⊢
   split
   ·rfl
   ·rename_i h1
    rw[if_neg h1]at hh
    exact Qfz hh
theorem Ba {m:Mesh} {k:Int}:∀{zs:List Int},(∀z∈zs,(Zd m z k).2=0)->W5 m k zs=(zs.map λz=>(Zd m z k).1,0)
 | [],_=>rfl
 | z::zs,h=>by
   unfold W5
   rw[if_neg (by simp[h z (by simp)]),Ba λy hy=>h y (by simp[hy])]
   simp
theorem Qdz {m:Mesh} {k:Int}:∀{zs:List Int} {i:Nat} {z:Int},zs[i]?=some z->(∀x∈zs.take i,(Zd m x k).2=0)->(Zd m z k).2≠0->W5 m k zs=([],(Zd m z k).2)
 | [],i,z,h,_,_=>by simp at h
 | y::zs,0,z,h,_,he=>by
   simp at h
   subst h
   unfold W5
   rw[if_pos he]
 | y::zs,i+1,z,h,hp,he=>by
   have ih:=Qdz (m:=m) (k:=k) (zs:=zs) (i:=i) (by simpa using h) (λx hx=>hp x (by simp[hx])) he
   unfold W5
   rw[if_neg (by simp[hp y (by simp)]),ih,if_pos he]
end Go.Abs
