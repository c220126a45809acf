/- Part of the library on which the proof stands: an abstract machine, its values and its soundness against the model; or what functions of the program do to such values. -/
import Derived.Test.YtjggbpiapinceaaGreatGoDet
import Derived.Test.YtjggbpiapinceaaGreatGoBl
import Derived.Test.YtjggbpiapinceaaGreatGoSp
import Derived.Test.YtjggbpiapinceaaGreatGoRevC
import Derived.Test.YtjggbpiapinceaaGreatGoRsD
import Derived.Test.YtjggbpiapinceaaGreatGoOriB
import Derived.Test.YtjggbpiapinceaaGreatGoShpD
import Derived.Test.YtjggbpiapinceaaGreatGoCsA
import Derived.Test.YtjggbpiapinceaaGreatGoRsA
set_option linter.unusedVariables false
set_option linter.unusedSimpArgs false
set_option maxHeartbeats 8000000
namespace Go.Abs
def Zi (ts:List T3) (sh:List Int):List T3:=sh.map λv=>tAt ts v.toNat
structure ShOk (n:Nat) (shs:List (List Int)):Prop where
 num:shs.length<=n
 len:∀sh∈shs,sh.length<=n
 mem:∀sh∈shs,∀v∈sh,0<=v/\v<n
 nodup:shs.flatten.Nodup
theorem Qb7 (L:List Int) (i k:Nat):(shK L i k).Nodup:=by
 have hsh:(shK L i k).Pairwise λa b=>a<b:=by
  unfold shK
  rw[jd]
  have h1:(List.range k).Pairwise (λa b:Nat=>a<b):=List.pairwise_lt_range
  exact(h1.filter _).imp λ{a b:Nat} (h:a<b)=>by show (a:Int)<(b:Int);omega
 exact hsh.imp λh=>by omega
theorem mem_shK2 {L:List Int} {i k:Nat} {v:Int}:v∈shK L i k↔∃j:Nat,v=(j:Int)/\j<k/\L[j]?=some (i:Int):=by
 unfold shK
 rw[qo]
 constructor
 ·rintro⟨j,hj,rfl⟩
  have hf:=qu.1 hj
  exact⟨j,rfl,qy.1 hf.1,by simpa using hf.2⟩
 ·rintro⟨j,rfl,h1,h2⟩
  exact⟨j,qu.2 ⟨qy.2 h1,by simpa using h2⟩,rfl⟩
theorem shsK_mem {L:List Int} {k:Nat} {sh:List Int}:sh∈Xr L k↔∃i:Nat,i<k/\L[i]?=some (i:Int)/\sh=shK L i L.length:=by
 unfold Xr
 rw[qo]
 constructor
 ·rintro⟨i,hi,rfl⟩
  have hf:=qu.1 hi
  exact⟨i,qy.1 hf.1,by simpa using hf.2,rfl⟩
 ·rintro⟨i,h1,h2,rfl⟩
  exact⟨i,qu.2 ⟨qy.2 h1,by simpa using h2⟩,rfl⟩
theorem Qb5 (L:List Int) (k:Nat):(Xr L k).flatten.Nodup:=by
 induction k with
 | zero=>simp[Xr]
 | succ k ih =>
   rw[Q4j]
   split
   ·rw[List.flatten_append,List.nodup_append]
    refine⟨ih,by simpa using Qb7 L k L.length,λa ha b hb=>?_⟩
    simp at hb
    obtain⟨sh,hs,has⟩:=List.mem_flatten.1 ha
    obtain⟨i,hi,_,rfl⟩:=shsK_mem.1 hs
    obtain⟨j,rfl,_,hj⟩:=mem_shK2.1 has
    rintro rfl
    obtain⟨j',hjj,_,hj'⟩:=mem_shK2.1 hb
    obtain rfl:j=j':=by omega
    rw[hj]at hj'
    have:=Option.some.inj hj'
    omega
   ·simpa using ih
theorem Qfh {m:Mesh} (hz:m.check=0):ShOk m.tris.length m.shells:=by
 obtain⟨L,hL⟩:=Q6j m.tris
 have hR:m.shells=Xr L m.tris.length:=by unfold Mesh.shells;rw[if_pos hz,Ic hL,hL.len]
 rw[hR]
 refine⟨?_,λsh hs=>?_,λsh hs v hv=>?_,Qb5 _ _⟩
 ·unfold Xr
  rw[List.length_map]
  have:=j8 (λ(i:Nat)=>decide (L[i]?=some (i:Int))) (List.range m.tris.length)
  rwa [List.length_range]at this
 ·obtain⟨i,_,_,rfl⟩:=shsK_mem.1 hs
  unfold shK
  rw[List.length_map]
  have:=j8 (λ(j:Nat)=>decide (L[j]?=some (i:Int))) (List.range L.length)
  rw[List.length_range,hL.len]at this
  rw[hL.len]
  omega
 ·obtain⟨i,_,_,rfl⟩:=shsK_mem.1 hs
  obtain⟨j,rfl,h1,_⟩:=mem_shK2.1 hv
  rw[hL.len]at h1
  omega
theorem tAt_ok {n:Nat} {ts:List T3} (h:W2 n ts=true) {i:Nat} (hi:i<ts.length):(tAt ts i).ok n=true:=Ek h (Zn hi)
theorem Qbl {m:Mesh} (hz:m.check=0) {sh:List Int} (hl:sh.length<=m.tris.length) (hv:∀v∈sh,0<=v/\v<m.tris.length):(Mesh.mk m.verts (Zi m.tris sh)).check=0:=by
 obtain⟨z1,z2,z3,z4⟩:=Mesh.check_zero.1 hz
 refine Mesh.check_zero.2 ⟨z1,by simp[Zi];omega,z3,?_⟩
 simp only[W2,qj,Zi,qo]
 rintro t ⟨v,hvs,rfl⟩
 have:=hv v hvs
 exact tAt_ok z4 (by omega)
theorem Q4b (t:T3):(Q7 t).Nodup:=by
 have h0:Q7 t=(Jq t).filter λe=>decide (e.x≠e.y):=rfl
 rw[h0,List.nodup_iff_pairwise_ne,List.pairwise_filter]
 unfold Jq
 simp only[j9,List.mem_cons,List.not_mem_nil,or_false,decide_eq_true_eq,ne_eq,false_implies,implies_true,List.Pairwise.nil,and_true,P2.mk.injEq]
 refine⟨λx hx h1 h2=>?_,λx hx h1 h2=>?_⟩
 ·rcases hx with rfl | rfl
  ·simp only[P2.mk.injEq];simp only at h1 h2;omega
  ·simp only[P2.mk.injEq];simp only at h1 h2;omega
 ·subst hx
  simp only[P2.mk.injEq];simp only at h1 h2;omega
def Coh (ts:List T3):Prop:=∀(i j:Nat) (e:P2),i<ts.length->j<ts.length->e∈Q7 (tAt ts i)->e∈Q7 (tAt ts j)->i=j
theorem B4 {ts:List T3} {i:Nat} (h:i<ts.length):ts[i]=tAt ts i:=by
 have:=Zn h
 rw[q9 h]at this
 exact Option.some.inj this
theorem coh_iff {ts:List T3}:(Qb ts).Nodup↔Coh ts:=by
 have h0:(Qb ts).Nodup↔(∀t∈ts,(Q7 t).Nodup)/\ts.Pairwise λs t=>∀x∈Q7 s,∀y∈Q7 t,x≠y:=List.pairwise_flatMap
 rw[h0,j4]
 constructor
 ·rintro⟨_,h⟩ i j e hi hj h1 h2
  rcases Nat.lt_trichotomy i j with hh | hh | hh
  ·exact absurd rfl (h i j hi hj hh e (by rw[B4 hi];exact h1) e (by rw[B4 hj];exact h2))
  ·exact hh
  ·exact absurd rfl (h j i hj hi hh e (by rw[B4 hj];exact h2) e (by rw[B4 hi];exact h1))
 ·intro h
  refine⟨λt _=>Q4b t,λi j hi hj hij x hx y hy=>?_⟩
  rintro rfl
  rw[B4 hi]at hx
  rw[B4 hj]at hy
  have:=h i j x hi hj hx hy
  omega
theorem cohB_iff {ts:List T3}:Q01 ts=true↔Coh ts:=by unfold Q01;rw[decide_eq_true_eq];exact coh_iff
theorem Qmo {ts:List T3} {i j:Nat} (hi:i<ts.length) (hj:j<ts.length) {a b:P2} (ha:a∈Q7 (tAt ts i)) (hb:b∈Q7 (tAt ts j)) (h:a.und=b.und):adjI ts i j :=
 ⟨_,_,Zn hi,Zn hj,a,ha,b,hb,h⟩
theorem mem_all {ts:List T3} {e:P2}:e∈Qb ts↔∃i:Nat,i<ts.length/\e∈Q7 (tAt ts i):=by
 unfold Qb
 rw[jm]
 constructor
 ·rintro⟨t,ht,he⟩
  obtain⟨i,hi⟩:=qq ht
  have hl:=(q8.1 hi).1
  rw[Zn hl]at hi
  obtain rfl:=Option.some.inj hi
  exact⟨i,hl,he⟩
 ·rintro⟨i,hl,he⟩
  exact⟨_,qb (Zn hl),he⟩
def Clo (ts:List T3):Prop:=∀e∈Qb ts,e.rev∈Qb ts
theorem Qcq {m:Mesh} (hz:m.check=0) (hc:Coh m.tris) (h:Clo m.tris):m.closed=true:=by
 unfold Mesh.closed
 simp only[Bool.and_eq_true,decide_eq_true_eq]
 refine⟨hz,?_⟩
 rw[List.eq_nil_iff_forall_not_mem]
 intro e he
 rw[mem_border]at he
 obtain⟨_,h1,h2⟩:=he
 unfold Mesh.use at h2
 rw[if_pos hz,if_pos hz]at h2
 have h3:=List.nodup_iff_count.1 (coh_iff.2 hc) e
 have h4:0<(Qb m.tris).count e.rev:=List.count_pos_iff.2 (h e h1)
 omega
def Mesh.coh (m:Mesh):Bool:=decide (m.check=0) && Q01 m.tris
def Q0c (P:Program) (f:FuncId):Prop:=∀m:Mesh,CallIs P f [m.enc] (.b m.coh)
section
variable {P:Program} (hm:P.follows .mixedOrders=true)
include hm
theorem Us {f fc fh:FuncId} (hf:Qa P f (L0h.c fc fh) L0h.r L0h.n) (hc:Jl P fc) (hh:CohC P fh):Q0c P f:=by
 intro m
 refine PureC.is (Q8 hm hf (qh rfl) ?_) rfl
 unfold L0h.c
 simp[go_sem,Mesh.enc,Mesh.cs]
 refine Q5 (hc m) ?_
 by_cases h:m.check=0
 ·have hl:=(Mesh.check_zero.1 h).2.1
  simp[go_sem,h]
  refine Q5 (hh m.tris (by omega)) ?_
  simp[go_sem,L0h.r,Mesh.coh,h]
 ·have h':(m.check == 0)=false:=by simpa using h
  simp[go_sem,h,h',L0h.r,Mesh.coh]
end
theorem Mesh.v_valid {m:Mesh} (h:Yh m.verts=true) {i:Int} (hi:i<m.verts.length):(m.v i).valid=true:=by
 unfold Mesh.v
 cases hp:m.verts[i.toNat]? with
 | none=>rfl
 | some p=>exact Jt h hp
def V3.sub (a b:V3):V3:=⟨a.x-b.x,a.y-b.y,a.z-b.z⟩
def V3.crs (a b:V3):V3:=⟨a.y*b.z-a.z*b.y,a.z*b.x-a.x*b.z,a.x*b.y-a.y*b.x⟩
def Wk (a b c:V3):Bool:=a.valid && (b.valid && (c.valid && decide ((b.sub a).crs (c.sub a)=⟨0,0,0⟩)))
def Mesh.deg (m:Mesh) (t:T3):Bool:=Wk (m.v t.a) (m.v t.b) (m.v t.c)
def L22.c (L0d L1u:FuncId):C :=(.seq (.reg [Au 2 (.box (.t 0)),Ab 4 false]) (.seq (.reg [Ag 10 2 2,Am 11 1,Au 12 (.call L0d [.t 10,.t 11]),Am 9 12,Ax1 13 0 9,Ax1 14 1 9,Ax1 15 2 9,Ax1 16 3 9,Au 5 (.alloc [(.i .i64 0),(.i .i64 0),(.i .i64 0)]),Au 6 (.alloc [(.i .i64 0),(.i .i64 0),(.i .i64 0)]),Au 7 (.alloc [(.i .i64 0),(.i .i64 0),(.i .i64 0)]),As 3 5 13,As 3 6 14,As 3 7 15,Am 8 16]) (.seq (.reg [Am 17 8,Am 18 17,Av 19 18 (.ld (some 3) (.t 5)),Av 20 18 (.ld (some 3) (.t 6)),Av 21 18 (.ld (some 3) (.t 7)),Av 22 18 (.call L1u [.t 19,.t 20,.t 21]),Ap 23 18 22,Am 4 23]) .ret)))
def L22.r:List Rr:=[.tmp 4]
abbrev L22.n:Nat:=24
def L1u.c (L1z L1y L1v:FuncId):C :=(.seq (.reg [Au 3 (.box (.t 0)),Au 4 (.box (.t 1)),Au 5 (.box (.t 2)),Ab 6 false]) (.seq (.drw [Ag 7 3 3,Au 8 (.call L1z [.t 7]),Am 9 8,Av 10 9 (.ld (some 3) (.t 4)),Av 11 9 (.call L1z [.t 10]),Ap 12 9 11,Am 13 12,Av 14 13 (.ld (some 3) (.t 5)),Av 15 13 (.call L1z [.t 14]),Ap 16 13 15,Am 17 16,Av 18 17 (.ld (some 3) (.t 4)),Av 19 17 (.ld (some 3) (.t 3)),Av 20 17 (.call L1y [.t 18,.t 19]),Av 21 17 (.ld (some 3) (.t 5)),Av 22 17 (.ld (some 3) (.t 3)),Av 23 17 (.call L1y [.t 21,.t 22]),Av 24 17 (.call L1v [.t 20,.t 23]),Av 25 17 (.build [(.i .i64 0),(.i .i64 0),(.i .i64 0)] []),
 Av 26 17 (.eqa [1,1,1] false (.t 24) (.t 25)),Ap 27 17 26,Am 6 27] [[],[],[],[],[],[],[],[],[],[],[],[],[],[],[13],[13],[],[],[],[],[],[]]) .ret))
def L1u.r:List Rr:=[.tmp 6]
abbrev L1u.n:Nat:=28
def L1y.c (L1z:FuncId):C :=(.seq (.reg [Au 2 (.box (.t 0)),Au 3 (.box (.t 1)),Au 4 (.alloc [(.i .i64 0),(.i .i64 0),(.i .i64 0)])]) (.seq (.seq (.reg [Ag 5 3 2,Au 6 (.call L1z [.t 5]),Au 7 (.un .not (.t 6)),Am 8 7,Aw 9 8 (.ld (some 3) (.t 3)),Aw 10 8 (.call L1z [.t 9]),Aw 11 8 (.un .not (.t 10)),Ao 12 8 11]) (.ite (.t 12) (.seq (.reg [Au 13 (.build [(.i .i64 0),(.i .i64 0),(.i .i64 0)] []),As 3 4 13]) .ret) .skip)) (.seq (.reg [Af 14 0 2,Al 15 14,Af 16 0 3,Al 17 16,Aj .sub 18 15 17,Af 19 1 2,Al 20 19,Af 21 1 3,Al 22 21,Aj .sub 23 20 22,Af 24 2 2,Al 25 24,Af 26 2 3,Al 27 26,Aj .sub 28 25 27,Au 29 (.build [(.i .i64 0),(.i .i64 0),(.i .i64 0)] [(0,1,(.t 18)),(1,1,(.t 23)),(2,1,(.t 28))]),
 As 3 4 29]) .ret)))
def L1y.r:List Rr:=[.cell 4 (some 3)]
abbrev L1y.n:Nat:=30
end Go.Abs
namespace Go.Abs
open Go.Sort
instance:Inhabited V3:=⟨⟨0,0,0⟩⟩
def Qmu (P:Program) (f:FuncId):Prop:=∀a b:V3,a.valid=true->b.valid=true->CallIs P f [a.enc,b.enc] (a.sub b).enc
def Qel (P:Program) (f:FuncId):Prop:=∀a b:V3,a.within 131072=true->b.within 131072=true->CallIs P f [a.enc,b.enc] (a.crs b).enc
def Q7m (P:Program) (f:FuncId):Prop:=∀a:V3,CallIs P f [a.enc] (.b (a.within 131072))
def Qnx (P:Program) (f:FuncId):Prop:=∀a b c:V3,CallIs P f [a.enc,b.enc,c.enc] (.b (Wk a b c))
section
variable {P:Program} (hm:P.follows .mixedOrders=true)
include hm
theorem Qaq {f fv:FuncId} (hf:Qa P f (L1y.c fv) L1y.r L1y.n) (hv:Eh P fv):Qmu P f:=by
 intro a b h1 h2
 have g1:=V3.valid_iff.1 h1
 have g2:=V3.valid_iff.1 h2
 refine PureC.is (Q8 hm hf (qh rfl) ?_) rfl
 unfold L1y.c
 simp[go_sem,V3.enc,vcs]
 refine Q5 (hv a) ?_
 simp[go_sem,h1]
 refine Q5 (hv b) ?_
 simp (disch:=omega) [go_sem,h2,Q3,L1y.r,V3.sub]
theorem Q3l {f fw:FuncId} (hf:Qa P f (L20.c fw) L20.r L20.n) (hw:U3 P fw):Q7m P f:=by
 intro a
 refine PureC.is (Q8 hm hf (qh rfl) ?_) rfl
 unfold L20.c
 simp[go_sem,V3.enc,vcs]
 refine Q5 ((hw a 131072 (by omega) (by omega)).is rfl) ?_
 simp[go_sem,L20.r]
theorem Q3m {f fv:FuncId} (hf:Qa P f (L1v.c fv) L1v.r L1v.n) (hv:Q7m P fv):Qel P f:=by
 intro a b h1 h2
 have g1:(-131072<=a.x/\a.x<=131072/\-131072<=a.y/\a.y<=131072/\-131072<=a.z/\a.z<=131072):=by simpa[V3.within,and_assoc]using h1
 have g2:(-131072<=b.x/\b.x<=131072/\-131072<=b.y/\b.y<=131072/\-131072<=b.z/\b.z<=131072):=by simpa[V3.within,and_assoc]using h2
 have m1:=Qbs (x:=a.y) (y:=b.z) (A:=131072) (B:=131072) (by omega) (by omega) (by omega) (by omega)
 have m2:=Qbs (x:=a.z) (y:=b.y) (A:=131072) (B:=131072) (by omega) (by omega) (by omega) (by omega)
 have m3:=Qbs (x:=a.z) (y:=b.x) (A:=131072) (B:=131072) (by omega) (by omega) (by omega) (by omega)
 have m4:=Qbs (x:=a.x) (y:=b.z) (A:=131072) (B:=131072) (by omega) (by omega) (by omega) (by omega)
 have m5:=Qbs (x:=a.x) (y:=b.y) (A:=131072) (B:=131072) (by omega) (by omega) (by omega) (by omega)
 have m6:=Qbs (x:=a.y) (y:=b.x) (A:=131072) (B:=131072) (by omega) (by omega) (by omega) (by omega)
 refine PureC.is (Q8 hm hf (qh rfl) ?_) rfl
 unfold L1v.c
 simp[go_sem,V3.enc,vcs]
 refine Q5 (hv a) ?_
 simp[go_sem,h1]
 refine Q5 (hv b) ?_
 simp (disch:=omega) [go_sem,h2,Q3,L1v.r,V3.crs]
omit hm in
theorem Q1r {a b:V3} (h1:a.valid=true) (h2:b.valid=true):(a.sub b).within 131072=true:=by
 have g1:=V3.valid_iff.1 h1
 have g2:=V3.valid_iff.1 h2
 simp only[V3.within,Bool.and_eq_true,decide_eq_true_eq]
 simp only[V3.sub]
 omega
omit hm in
theorem v3_zero (v:V3):decide (v=⟨0,0,0⟩)=(v.x == 0 && (v.y == 0 && v.z == 0)):=by
 cases v;rw[Bool.eq_iff_iff];simp[V3.mk.injEq]
theorem Iz {f fv fs fc:FuncId} (hf:Qa P f (L1u.c fv fs fc) L1u.r L1u.n) (hv:Eh P fv) (hs:Qmu P fs) (hc:Qel P fc):Qnx P f:=by
 intro a b c
 refine PureC.is (Q8 hm hf (qh rfl) ?_) rfl
 unfold L1u.c
 simp[go_sem,V3.enc,vcs]
 refine Qx (hv a) ?_
 cases h1:a.valid
 ·simp[go_sem,L1u.r,Wk,h1]
 simp[go_sem]
 refine Qx (hv b) ?_
 cases h2:b.valid
 ·simp[go_sem,L1u.r,Wk,h1,h2]
 simp[go_sem]
 refine Qx (hv c) ?_
 cases h3:c.valid
 ·simp[go_sem,L1u.r,Wk,h1,h2,h3]
 simp[go_sem]
 refine Qx (hs b a h2 h1) ?_
 simp[go_sem]
 refine Qx (hs c a h3 h1) ?_
 simp[go_sem]
 refine Qx (hc _ _ (Q1r h2 h1) (Q1r h3 h1)) ?_
 simp[go_sem,V3.enc,vcs,L1u.r,Wk,h1,h2,h3,v3_zero]
end
end Go.Abs
namespace Go.Abs
open Go.Sort
def dd (l:List V3):List V3:=l.foldl (λacc v=>if v∈acc then acc else acc++[v]) []
def Mesh.degI (m:Mesh) (i:Int):Bool:=if 0<=i/\i<m.tris.length/\m.check=0 then match m.tris[i.toNat]? with
    | some t=>m.deg t
    | none=>false
 else false
def DegC (P:Program) (f:FuncId):Prop:=∀(m:Mesh) (i:Int),CallIs P f [m.enc,.i .i64 i] (.b (m.degI i))
section
variable {P:Program} (hm:P.follows .mixedOrders=true)
include hm
theorem Ul {f fc fv:FuncId} (hf:Qa P f (L22.c fc fv) L22.r L22.n) (hc:Ix P fc) (hv:Qnx P fv):DegC P f:=by
 intro m i
 refine PureC.is (Q8 hm hf (qh rfl) ?_) rfl
 unfold L22.c
 simp[go_sem,Mesh.enc,Mesh.cs]
 refine Q5 (hc m i) ?_
 by_cases h:0<=i/\i<m.tris.length/\m.check=0
 ·obtain⟨t,ht⟩:∃t,m.tris[i.toNat]?=some t:=⟨_,q9 (show i.toNat<m.tris.length by omega)⟩
  have e1:m.corners i=.t [(m.v t.a).enc,(m.v t.b).enc,(m.v t.c).enc,.b true]:=by unfold Mesh.corners;rw[if_pos h,ht]
  have e2:m.degI i=m.deg t:=by unfold Mesh.degI;rw[if_pos h,ht]
  rw[e1,e2]
  simp[go_sem,V3.enc,vcs]
  refine Q5 (hv (m.v t.a) (m.v t.b) (m.v t.c)) ?_
  simp[go_sem,L22.r,Mesh.deg]
 ·have e1:m.corners i=.t [zV3,zV3,zV3,.b false]:=by unfold Mesh.corners;rw[if_neg h]
  have e2:m.degI i=false:=by unfold Mesh.degI;rw[if_neg h]
  rw[e1,e2]
  simp[go_sem,zV3,L22.r]
end
def V3.inR (v:V3):Bool:=inI v.x && inI v.y && inI v.z
def Qi:List T3:=[⟨0,2,3⟩,⟨0,3,1⟩,⟨4,5,7⟩,⟨4,7,6⟩,⟨0,1,5⟩,⟨0,5,4⟩,⟨2,6,7⟩,⟨2,7,3⟩,⟨0,4,6⟩,⟨0,6,2⟩,⟨1,3,7⟩,⟨1,7,5⟩]
def Qa8 (p s:V3):V :=
 if s.x<1∨s.y<1∨s.z<1 then X5 X4 1
 else if p.valid=true/\(p.add s).valid=true then X5 ⟨Qd p s,Qi⟩ 0
 else X5 X4 8
def BoxC (P:Program) (f:FuncId):Prop:=∀p s:V3,p.inR=true->s.inR=true->CallIs P f [p.enc,s.enc] (Qa8 p s)
theorem Q84 (p:V3):Yh [p]=p.valid:=by simp[Yh]
theorem Ub {p s:V3} (h1:p.valid=true) (h2:(p.add s).valid=true):s.within 131072=true:=by
 have a1:=V3.valid_iff.1 h1
 have a2:=V3.valid_iff.1 h2
 simp only[V3.add]at a2
 rw[within_iff];omega
section
variable {P:Program} (hm:P.follows .mixedOrders=true)
include hm
theorem Q3r {f ff fn fp fc fl:FuncId} (hf:Qa P f (L19.c ff fn fp fc fl) L19.r L19.n)
  (hfit:Q7u P ff) (hnear:Qej P fn) (hplus:Q5j P fp) (hcor:Q0b P fc) (hcl:Jk P fl 3):BoxC P f:=by
 intro p s hp hs
 by_cases h1:s.x<1∨s.y<1∨s.z<1
 ·have hb:Qa8 p s=X5 X4 1:=by simp[Qa8,h1]
  rw[hb]
  refine CallIs.res (r:=.t [.a [.nil,.nil],.i .i64 1]) ?_ (K1 1)
  refine PureC.is (Q8 hm hf (qh rfl) ?_) rfl
  unfold L19.c
  have h2:min s.x (min s.y s.z)<1:=by omega
  simp[go_sem,V3.enc,V3.cs,Bq,h2,L19.r]
 have h2:¬ min s.x (min s.y s.z)<1:=by omega
 by_cases hok:p.valid=true/\(p.add s).valid=true
 ·have hb:Qa8 p s=X5 ⟨Qd p s,Qi⟩ 0:=by simp[Qa8,h1,hok]
  have hw:=Ub hok.1 hok.2
  rw[hb]
  refine PureC.is (Q8 hm hf (qh rfl) ?_) rfl
  unfold L19.c
  simp[go_sem,V3.enc,V3.cs,Bq,h2]
  refine Q5 (hfit [p] (by simp)) ?_
  simp[go_sem,Q84,hok.1]
  refine Q5 (hnear s) ?_
  simp[go_sem,hw]
  refine Q5 (hplus p s) ?_
  rw[Q2c hok.1 hw]
  simp[go_sem,V3.enc,V3.cs]
  refine Q5 (hfit [p.add s] (by simp)) ?_
  simp[go_sem,Q84,hok.2]
  refine Q5 (hcor p s hok.1 hw) ?_
  simp[go_sem,V3.cs,Qd]
  refine Q5m (hcl _ (by simp[V.isD]) (by simp)) rfl ?_
  simp[go_sem,L19.r,V3.cs,X5,Mesh.enc,Mesh.cs,vsV,tsV,Qi,T3.cs]
 ·have hb:Qa8 p s=X5 X4 8:=by simp[Qa8,h1,hok]
  rw[hb]
  refine CallIs.res (r:=.t [.a [.nil,.nil],.i .i64 8]) ?_ (K1 8)
  refine PureC.is (Q8 hm hf (qh rfl) ?_) rfl
  unfold L19.c
  simp[go_sem,V3.enc,V3.cs,Bq,h2]
  refine Q5 (hfit [p] (by simp)) ?_
  cases hpv:p.valid
  ·simp[go_sem,Q84,hpv,L19.r]
  simp[go_sem,Q84,hpv]
  refine Q5 (hnear s) ?_
  cases hw:s.within 131072
  ·simp[go_sem,L19.r]
  simp[go_sem]
  refine Q5 (hplus p s) ?_
  rw[Q2c hpv hw]
  simp[go_sem,V3.enc,V3.cs]
  refine Q5 (hfit [p.add s] (by simp)) ?_
  have hav:(p.add s).valid=false:=by rw[Bool.eq_false_iff];exact λh=>hok ⟨hpv,h⟩
  simp[go_sem,Q84,hav,L19.r]
end
theorem Qj1 (k:Nat):((λel=>List.map (V.sh1 k) el) ∘ V3.cs)=V3.cs:=by funext v;rfl
theorem sh_tcs (k:Nat):((λel=>List.map (V.sh1 k) el) ∘ T3.cs)=T3.cs:=by funext v;rfl
def mixed {α:Type} (l:List α) (g:α->α) (k:Nat):List α:=(l.take k).map g++l.drop k
theorem Qga {α:Type} (l:List α) (g:α->α) (k:Nat):(mixed l g k).length=l.length:=by simp[mixed];omega
theorem Qgb {α:Type} {l:List α} {g:α->α} {k:Nat} (h:k<l.length):(mixed l g k)[k]?=some l[k]:=by
 rw[mixed,qf (by simp;omega)];simp;rw[show k+(k-min k l.length)=k by omega];simp[h]
theorem Qg9 {α:Type} {l:List α} {g:α->α} {k:Nat} (h:k<l.length):(mixed l g k).set k (g l[k])=mixed l g (k+1):=by
 rw[mixed,jl _ _ (by simp;omega),show k-((l.take k).map g).length=0 by simp;omega]
 rw[List.drop_eq_getElem_cons h,List.set_cons_zero,mixed,List.take_add_one,q9 h]
 simp only[Option.toList,qw,List.map_cons,List.map_nil,qz,List.cons_append,List.nil_append]
theorem mixed_0 {α:Type} (l:List α) (g:α->α):mixed l g 0=l:=by simp[mixed]
theorem Qgc {α:Type} (l:List α) (g:α->α):mixed l g l.length=l.map g:=by simp[mixed]
def Mesh.mapV (m:Mesh) (g:V3->V3):Mesh:=⟨m.verts.map g,m.tris⟩
section
variable {P:Program} (hm:P.follows .mixedOrders=true)
include hm
omit hm in
theorem Qa7 {fcv fct fn:FuncId} {caps:List V} {h:List O} {T:List Nat} {g:V3->V3} {κ:X->St->Prop} (m:Mesh) (hv:m.verts.length<=4096) (ht:m.tris.length<=4096)
  (hcv:Jk P fcv 3) (hct:Jk P fct 3) (hcal:Z3 P fn=true) (hT:∀id∈T,id<h.length) (hcaps:∀n,h.length<=n->(V.f fn caps).cl n=true)
  (hcl:∀n,h.length<=n->∀o∈h,o.cl n)
  (hclo:∀v∈m.verts,∀h2:List O,(∀id∈T,h2[id]?=h[id]?)->ACall P fn (v.enc::caps) h2 (λr h'=>r=(g v).enc/\h'=h2))
  (hk:∀env,get 4 env=.p (h.length+1) 1 0 0->κ .r ⟨env,h++[.dead,.arr 1 2 [[.own (h.length+2) 1 0 m.verts.length,.own (h.length+3) 1 0 m.tris.length]],.arr 1 3 ((m.verts.map g).map V3.cs),.arr 1 3 (m.tris.map T3.cs),.arr 1 2 [[.own (h.length+2) 1 0 m.verts.length,.own (h.length+3) 1 0 m.tris.length]]]⟩) :
  AS P h.length (L1c.c fcv fct) ⟨Z0 0 [m.enc,.f fn caps],h⟩ κ:=by
 unfold L1c.c
 simp[go_sem,Mesh.enc,Mesh.cs,vsV,tsV,Q9,Qc,Qg,Qh]
 refine Q5l (hcv _ (by simp[Q18]) (by simp;omega)) rfl ?_
 simp[go_sem,Q9,Qc,Qg,Qh,Qj1]
 refine Q5l (hct _ (by simp[El]) (by simp;omega)) rfl ?_
 simp[go_sem,Q9,Qc,Qg,Qh,Qj1,sh_tcs]
 refine Qj (α:=Nat) (λk=>k<=m.verts.length)
  (λk=>⟨[(1,.f fn caps),(4,.p (h.length+1) 1 0 0),(5,.p (h.length+4) 1 0 0),(16,.own (h.length+2) 1 0 m.verts.length),(17,.i .i64 m.verts.length),(18,.i .i64 k)],
   h++[.dead,.arr 1 2 [[.nil,.nil]],.arr 1 3 ((mixed m.verts g k).map V3.cs),.arr 1 3 (m.tris.map T3.cs),.arr 1 2 [[.own (h.length+2) 1 0 m.verts.length,.own (h.length+3) 1 0 m.tris.length]]]⟩)
  (λk=>m.verts.length-k) 0 (Nat.zero_le _) ?_ ?_
 ·simp[go_sem,mixed_0]
  refine⟨λx hx=>?_,Ql (hcl _ (by omega)) ?_⟩
  ·have:=hcaps (h.length+5) (by omega)
   simp only[V.cl,V.cl1,qj]at this
   exact this x hx
  ·simp[go_sem,or_imp,forall_and,V.cl,V.cl1,V.cl0,vcs,tcs]
 ·intro k hk0
  have hml:=Qga m.verts g k
  by_cases hkl:k=m.verts.length
  ·subst hkl
   rw[Qgc]
   have hk2:=hk [(1,V.f fn caps),(4,V.p (h.length+1) 1 0 0),(5,V.p (h.length+4) 1 0 0),(16,V.own (h.length+2) 1 0 m.verts.length),(17,V.i .i64 m.verts.length),(18,V.i .i64 m.verts.length),(19,V.b false),(31,V.a [V.own (h.length+2) 1 0 m.verts.length,V.own (h.length+3) 1 0 m.tris.length])] rfl
   rw[List.map_map]at hk2
   simp[go_sem,Q9,Qc,Qg,Qh]
   exact hk2
  ·have hlt:k<m.verts.length:=by omega
   have hget:=Qgb (g:=g) hlt
   have hset:=Qg9 (g:=g) hlt
   have hgete:∀h',(mixed m.verts g k)[k]'h'=m.verts[k]:=λh'=>(List.getElem_eq_iff h').2 hget
   simp[go_sem,Q9,Qc,Qg,Qh,hlt,hml,hgete,vcs]
   refine⟨hcal,?_⟩
   refine Qdb (T:=T) (r:=(g m.verts[k]).enc) (λid hid=>⟨by have:=hT id hid;omega,by have:=hT id hid;simp;omega⟩) (λh2 hag=>hclo m.verts[k] (List.getElem_mem hlt) h2 (λid hid=>?_)) (Qmb (by simp)) ?_
   ·rw[hag id hid,qd (hT id hid)]
   simp[go_sem,Q9,Qc,Qg,Qh,hlt,hml,V3.enc,vcs]
   have hcc:∀x∈caps,V.cl0 (h.length+5) x=true:=λx hx=>by
    have:=hcaps (h.length+5) (by omega)
    simp only[V.cl,V.cl1,qj]at this
    exact this x hx
   have hset2:(List.map V3.cs (mixed m.verts g k)).set k [V.i .i64 (g m.verts[k]).x,V.i .i64 (g m.verts[k]).y,V.i .i64 (g m.verts[k]).z]=List.map V3.cs (mixed m.verts g (k+1)):=by
    rw[<- hset,List.map_set];rfl
   rw[hset2]
   refine⟨k+1,by omega,by omega,⟨hcc,Q3 (by omega) (by omega)⟩,Ql (hcl _ (by omega)) ?_⟩
   simp[go_sem,or_imp,forall_and,V.cl,V.cl1,V.cl0,vcs,tcs]
theorem Qcv {f fcv fct fn:FuncId} {caps:List V} {h:List O} {T:List Nat} {g:V3->V3} (hf:Qa P f (L1c.c fcv fct) L1c.r L1c.n) (m:Mesh) (hv:m.verts.length<=4096) (ht:m.tris.length<=4096)
  (hcv:Jk P fcv 3) (hct:Jk P fct 3) (hcal:Z3 P fn=true) (hT:∀id∈T,id<h.length) (hcaps:∀n,h.length<=n->(V.f fn caps).cl n=true)
  (hcl:∀n,h.length<=n->∀o∈h,o.cl n)
  (hclo:∀v∈m.verts,∀h2:List O,(∀id∈T,h2[id]?=h[id]?)->ACall P fn (v.enc::caps) h2 (λr h'=>r=(g v).enc/\h'=h2)) :
  ACall P f [m.enc,.f fn caps] h (λr h'=>r=.a [.own (h.length+2) 1 0 m.verts.length,.own (h.length+3) 1 0 m.tris.length] /\
   h'=h++[.dead,.dead,.arr 1 3 ((m.verts.map g).map V3.cs),.arr 1 3 (m.tris.map T3.cs)]):=by
 refine Kl hm hf (qh rfl) (Qa7 m hv ht hcv hct hcal hT hcaps hcl hclo λenv he=>?_)
 rw[Q1j]
 refine⟨[.a [.own (h.length+2) 1 0 m.verts.length,.own (h.length+3) 1 0 m.tris.length]],h++[.dead,.dead,.arr 1 3 ((m.verts.map g).map V3.cs),.arr 1 3 (m.tris.map T3.cs)],?_,rfl,?_,?_,?_,?_,rfl,rfl⟩
 ·simp[L1c.r,Yt,he,go_sem,Q9]
 ·simp[V.cl,V.cl1,V.cl0]
 ·simp
 ·simp
 ·refine Ql (hcl _ (by simp)) ?_
  simp[go_sem,or_imp,forall_and,V.cl,V.cl1,V.cl0,vcs,tcs]
end
def I6 (m:Mesh) (d:V3):V :=
 if m.check≠0 then X5 X4 1 else if Yh (m.verts.map (·.add d))=false then X5 X4 8 else X5 (m.mapV (·.add d)) 0
def Qek (P:Program) (f:FuncId):Prop:=∀(m:Mesh) (d:V3),d.inR=true->CallIs P f [m.enc,d.enc] (I6 m d)
def Q3i (P:Program) (f:FuncId):Prop:=∀m:Mesh,m.verts.length<=1000000->CallIs P f [m.enc] (if Yh m.verts=false then X5 X4 8 else X5 m 0)
section
variable {P:Program} (hm:P.follows .mixedOrders=true)
include hm
theorem Er {f ff:FuncId} (hf:Qa P f (L1d.c ff) L1d.r L1d.n) (hfit:Q7u P ff):Q3i P f:=by
 intro m hml
 cases h1:Yh m.verts
 ·rw[if_pos rfl]
  refine CallIs.res (r:=.t [.a [.nil,.nil],.i .i64 8]) ?_ (K1 8)
  refine PureC.is (Q8 hm hf (qh rfl) ?_) rfl
  unfold L1d.c
  simp[go_sem,Mesh.enc,Mesh.cs]
  refine Q5 (hfit m.verts hml) ?_
  simp[go_sem,h1,L1d.r]
 rw[if_neg (by simp)]
 refine PureC.is (Q8 hm hf (qh rfl) ?_) rfl
 unfold L1d.c
 simp[go_sem,Mesh.enc,Mesh.cs]
 refine Q5 (hfit m.verts hml) ?_
 simp[go_sem,h1,L1d.r,X5,Mesh.enc,Mesh.cs,vsV,tsV]
theorem Qhx {f fp:FuncId} (hf:Qa P f (L1b.c fp) L1b.r L1b.n) (hp:Q5j P fp) (v d:V3) {h:List O} {id:Nat} (ho:h[id]?=some (.arr 1 3 [d.cs])) :
  ACall P f [v.enc,.p id 1 0 0] h (λr h'=>r=(v.plus d).enc/\h'=h):=by
 have hlt:id<h.length:=(q8.1 ho).1
 have hap:∀l:List O,(h++l)[id]?=some (.arr 1 3 [d.cs]):=λl=>by rw[qd hlt];exact ho
 refine Ko λhcl=>?_
 refine Kl hm hf (qh rfl) ?_
 unfold L1b.c
 simp[go_sem,V3.enc,vcs,Q9,Qc,Qg,Qh,hap]
 refine Q5 (hp v d) ?_
 simp[go_sem,V3.enc,vcs,Q9,Qc,Qg,Qh,hap]
 refine⟨[(v.plus d).enc],by simp[L1b.r,go_sem,Q9,V3.enc,vcs],by simp[V3.enc],h,by simp[V3.enc,vcs,V.cl,V.cl1,V.cl0],Nat.le_refl _,by omega,?_,rfl,rfl⟩
 have:=Ql (n:=h.length) (a:=[.arr 1 3 [v.cs],.arr 1 3 [(v.plus d).cs]]) (b:=[]) (hcl h.length (Nat.le_refl _)) trivial
 rw[List.append_nil]at this
 exact this
theorem Q1z {f fk fn f1 fch fck:FuncId} (hf:Qa P f (L1a.c fk fn f1 fch fck) L1a.r L1a.n) (hk:Jl P fk) (hnear:Qej P fn)
  {fcv fct fp:FuncId} (hfch:Qa P fch (L1c.c fcv fct) L1c.r L1c.n) (hcv:Jk P fcv 3) (hct:Jk P fct 3) (hf1:Qa P f1 (L1b.c fp) L1b.r L1b.n) (hcal:Z3 P f1=true) (hp:Q5j P fp) (hck:Q3i P fck):Qek P f:=by
 intro m d hd
 by_cases h1:m.check=0
 case neg =>
  have:I6 m d=X5 X4 1:=by simp[I6,h1]
  rw[this]
  refine CallIs.res (r:=.t [.a [.nil,.nil],.i .i64 1]) ?_ (K1 1)
  refine PureC.is (Q8 hm hf (qh rfl) ?_) rfl
  unfold L1a.c
  simp[go_sem,Mesh.enc,Mesh.cs,V3.enc,V3.cs]
  refine Q5 (hk m) ?_
  simp[go_sem,h1,L1a.r]
 obtain⟨z1,z2,z3,z4⟩:=Mesh.check_zero.1 h1
 by_cases h2:0<m.verts.length/\d.within 131072=false
 ·have:I6 m d=X5 X4 8:=by
   have:Yh (m.verts.map (·.add d))=false:=by
    cases hvs:m.verts with
    | nil=>rw[hvs]at h2;simp at h2
    | cons v r =>
      rw[Bool.eq_false_iff]
      intro h3
      simp only[Yh,List.map_cons,List.all_cons,Bool.and_eq_true]at h3
      have hv:v.valid=true:=Jt z3 (k:=0) (by rw[hvs];rfl)
      have:=Ub hv h3.1
      rw[this]at h2;simp at h2
   simp[I6,h1,this]
  rw[this]
  refine CallIs.res (r:=.t [.a [.nil,.nil],.i .i64 8]) ?_ (K1 8)
  refine PureC.is (Q8 hm hf (qh rfl) ?_) rfl
  unfold L1a.c
  simp[go_sem,Mesh.enc,Mesh.cs,V3.enc,V3.cs]
  refine Q5 (hk m) ?_
  simp[go_sem,h1,vsV,h2.1]
  refine Q5 (hnear d) ?_
  simp[go_sem,h2.2,L1a.r]
 have hg:∀v∈m.verts,v.plus d=v.add d:=by
  intro v hv
  have hne:0<m.verts.length:=List.length_pos_of_mem hv
  have hw:d.within 131072=true:=by
   cases hd2:d.within 131072
   ·exact absurd ⟨hne,hd2⟩ h2
   ·rfl
  obtain⟨i,hi⟩:=qq hv
  exact Q2c (Jt z3 hi) hw
 have hmap:m.verts.map (λv=>v.plus d)=m.verts.map (λv=>v.add d):=jp hg
 have hres:I6 m d=if Yh (m.mapV (·.add d)).verts=false then X5 X4 8 else X5 (m.mapV (·.add d)) 0:=by
  unfold I6;rw[if_neg (by simp[h1])];rfl
 have hexm:∃m' e,I6 m d=X5 m' e:=by
  rw[hres];split
  ·exact⟨_,_,rfl⟩
  ·exact⟨_,_,rfl⟩
 have hck':=hck (m.mapV (·.add d)) (by simp[Mesh.mapV];omega)
 rw[<- hres]at hck'
 obtain⟨m',e,hme⟩:=hexm
 rw[hme]at hck' ⊢
 have hchg:=Qcv hm (h:=[.arr 1 2 [m.cs],.arr 1 3 [d.cs],.arr 1 2 [[.nil,.nil]]]) (T:=[1]) (caps:=[.p 1 1 0 0]) (g:=λv=>v.plus d) hfch m z1 z2 hcv hct hcal (by simp)
  (by intro n hn;simp[V.cl,V.cl1,V.cl0];simp at hn;omega)
  (by intro n hn o ho;simp at ho;rcases ho with rfl | rfl | rfl<;>simp[O.cl,Mesh.cs,vsV,tsV,vcs,or_imp,forall_and,V.cl,V.cl1,V.cl0])
  (λv hv h2 hag=>Qhx hm hf1 hp v d (by rw[hag 1 (by simp)];rfl))
 rw[hmap]at hchg
 refine PureC.is (Q8 hm hf (qh rfl) ?_) rfl
 unfold L1a.c
 simp[go_sem,Mesh.enc,Mesh.cs,V3.enc,V3.cs]
 refine Q5 (hk m) ?_
 by_cases h3:0<m.verts.length
 case pos =>
  have hw:d.within 131072=true:=by
   cases hd2:d.within 131072
   ·exact absurd ⟨h3,hd2⟩ h2
   ·rfl
  simp[go_sem,h1,vsV,h3]
  refine Q5 (hnear d) ?_
  simp[go_sem,hw]
  refine Y9 hchg ?_
  simp[go_sem]
  refine X9 (vs:=[(m.mapV (·.add d)).enc]) ?_ hck' ?_
  ·simp[go_sem,Je,frz,Xj,Mesh.mapV,Mesh.enc,Mesh.cs,vsV,tsV,Q18,El]
  simp[go_sem,L1a.r,X5,Mesh.enc,Mesh.cs,vsV,tsV]
 case neg =>
  simp[go_sem,h1,vsV,h3]
  refine Y9 hchg ?_
  simp[go_sem]
  refine X9 (vs:=[(m.mapV (·.add d)).enc]) ?_ hck' ?_
  ·simp[go_sem,Je,frz,Xj,Mesh.mapV,Mesh.enc,Mesh.cs,vsV,tsV,Q18,El]
  simp[go_sem,L1a.r,X5,Mesh.enc,Mesh.cs,vsV,tsV]
end
end Go.Abs
