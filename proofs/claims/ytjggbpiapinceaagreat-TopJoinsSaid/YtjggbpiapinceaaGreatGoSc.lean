/- Part of the library on which the proof stands: an abstract machine, its values and its soundness against the model; or what functions of the program do to such values. -/
import Derived.Test.YtjggbpiapinceaaGreatGoDet
import Derived.Test.YtjggbpiapinceaaGreatGoSet
import Derived.Test.YtjggbpiapinceaaGreatGoRevC
import Derived.Test.YtjggbpiapinceaaGreatGoTpD
import Derived.Test.YtjggbpiapinceaaGreatGoTo
import Derived.Test.YtjggbpiapinceaaGreatGoRw
import Derived.Test.YtjggbpiapinceaaGreatGoMap
import Derived.Test.YtjggbpiapinceaaGreatGoSecD
set_option linter.unusedVariables false
set_option linter.unusedSimpArgs false
set_option maxHeartbeats 4000000
namespace Go.Abs
def Zj (ts:List T3) (sh:List Int):List T3:=sh.map λv=>tAt ts v.toNat
structure ShOk (n:Nat) (shs:List (List Int)):Prop where
 num:shs.length<=n
 len:∀sh∈shs,sh.length<=n
 mem:∀sh∈shs,∀v∈sh,0<=v/\v<n
 nodup:shs.flatten.Nodup
theorem Qbc (L:List Int) (i k:Nat):(shK L i k).Nodup:=by
 have hsh:(shK L i k).Pairwise λa b=>a<b:=by
  unfold shK
  rw[jd]
  have h1:(List.range k).Pairwise (λa b:Nat=>a<b):=List.pairwise_lt_range
  exact(h1.filter _).imp λ{a b:Nat} (h:a<b)=>by show (a:Int)<(b:Int);omega
 exact hsh.imp λh=>by omega
theorem mem_shK2 {L:List Int} {i k:Nat} {v:Int}:v∈shK L i k↔∃j:Nat,v=(j:Int)/\j<k/\L[j]?=some (i:Int):=by
 unfold shK
 rw[qo]
 constructor
 ·rintro⟨j,hj,rfl⟩
  have hf:=qu.1 hj
  exact⟨j,rfl,qy.1 hf.1,by simpa using hf.2⟩
 ·rintro⟨j,rfl,h1,h2⟩
  exact⟨j,qu.2 ⟨qy.2 h1,by simpa using h2⟩,rfl⟩
theorem shsK_mem {L:List Int} {k:Nat} {sh:List Int}:sh∈Xr L k↔∃i:Nat,i<k/\L[i]?=some (i:Int)/\sh=shK L i L.length:=by
 unfold Xr
 rw[qo]
 constructor
 ·rintro⟨i,hi,rfl⟩
  have hf:=qu.1 hi
  exact⟨i,qy.1 hf.1,by simpa using hf.2,rfl⟩
 ·rintro⟨i,h1,h2,rfl⟩
  exact⟨i,qu.2 ⟨qy.2 h1,by simpa using h2⟩,rfl⟩
theorem Qba (L:List Int) (k:Nat):(Xr L k).flatten.Nodup:=by
 induction k with
 | zero=>simp[Xr]
 | succ k ih =>
   rw[Q4p]
   split
   ·rw[List.flatten_append,List.nodup_append]
    refine⟨ih,by simpa using Qbc L k L.length,λa ha b hb=>?_⟩
    simp at hb
    obtain⟨sh,hs,has⟩:=List.mem_flatten.1 ha
    obtain⟨i,hi,_,rfl⟩:=shsK_mem.1 hs
    obtain⟨j,rfl,_,hj⟩:=mem_shK2.1 has
    rintro rfl
    obtain⟨j',hjj,_,hj'⟩:=mem_shK2.1 hb
    obtain rfl:j=j':=by omega
    rw[hj]at hj'
    have:=Option.some.inj hj'
    omega
   ·simpa using ih
theorem Qfv {m:Mesh} (hz:m.check=0):ShOk m.tris.length m.shells:=by
 obtain⟨L,hL⟩:=Q6t m.tris
 have hR:m.shells=Xr L m.tris.length:=by unfold Mesh.shells;rw[if_pos hz,I7 hL,hL.len]
 rw[hR]
 refine⟨?_,λsh hs=>?_,λsh hs v hv=>?_,Qba _ _⟩
 ·unfold Xr
  rw[List.length_map]
  have:=j8 (λ(i:Nat)=>decide (L[i]?=some (i:Int))) (List.range m.tris.length)
  rwa [List.length_range]at this
 ·obtain⟨i,_,_,rfl⟩:=shsK_mem.1 hs
  unfold shK
  rw[List.length_map]
  have:=j8 (λ(j:Nat)=>decide (L[j]?=some (i:Int))) (List.range L.length)
  rw[List.length_range,hL.len]at this
  rw[hL.len]
  omega
 ·obtain⟨i,_,_,rfl⟩:=shsK_mem.1 hs
  obtain⟨j,rfl,h1,_⟩:=mem_shK2.1 hv
  rw[hL.len]at h1
  omega
theorem tAt_ok {n:Nat} {ts:List T3} (h:Kr n ts=true) {i:Nat} (hi:i<ts.length):(tAt ts i).ok n=true:=Ec h (Zq hi)
theorem Qbp {m:Mesh} (hz:m.check=0) {sh:List Int} (hl:sh.length<=m.tris.length) (hv:∀v∈sh,0<=v/\v<m.tris.length):(Mesh.mk m.verts (Zj m.tris sh)).check=0:=by
 obtain⟨z1,z2,z3,z4⟩:=Mesh.check_zero.1 hz
 refine Mesh.check_zero.2 ⟨z1,by simp[Zj];omega,z3,?_⟩
 simp only[Kr,qj,Zj,qo]
 rintro t ⟨v,hvs,rfl⟩
 have:=hv v hvs
 exact tAt_ok z4 (by omega)
theorem Q4g (t:T3):(Q7 t).Nodup:=by
 have h0:Q7 t=(Js t).filter λe=>decide (e.x≠e.y):=rfl
 rw[h0,List.nodup_iff_pairwise_ne,List.pairwise_filter]
 unfold Js
 simp only[j9,List.mem_cons,List.not_mem_nil,or_false,decide_eq_true_eq,ne_eq,false_implies,implies_true,List.Pairwise.nil,and_true,P2.mk.injEq]
 refine⟨λx hx h1 h2=>?_,λx hx h1 h2=>?_⟩
 ·rcases hx with rfl | rfl
  ·simp only[P2.mk.injEq];simp only at h1 h2;omega
  ·simp only[P2.mk.injEq];simp only at h1 h2;omega
 ·subst hx
  simp only[P2.mk.injEq];simp only at h1 h2;omega
def Coh (ts:List T3):Prop:=∀(i j:Nat) (e:P2),i<ts.length->j<ts.length->e∈Q7 (tAt ts i)->e∈Q7 (tAt ts j)->i=j
theorem Ix {ts:List T3} {i:Nat} (h:i<ts.length):ts[i]=tAt ts i:=by
 have:=Zq h
 rw[q9 h]at this
 exact Option.some.inj this
theorem coh_iff {ts:List T3}:(Qa ts).Nodup↔Coh ts:=by
 have h0:(Qa ts).Nodup↔(∀t∈ts,(Q7 t).Nodup)/\ts.Pairwise λs t=>∀x∈Q7 s,∀y∈Q7 t,x≠y:=List.pairwise_flatMap
 rw[h0,j4]
 constructor
 ·rintro⟨_,h⟩ i j e hi hj h1 h2
  rcases Nat.lt_trichotomy i j with hh | hh | hh
  ·exact absurd rfl (h i j hi hj hh e (by rw[Ix hi];exact h1) e (by rw[Ix hj];exact h2))
  ·exact hh
  ·exact absurd rfl (h j i hj hi hh e (by rw[Ix hj];exact h2) e (by rw[Ix hi];exact h1))
 ·intro h
  refine⟨λt _=>Q4g t,λi j hi hj hij x hx y hy=>?_⟩
  rintro rfl
  rw[Ix hi]at hx
  rw[Ix hj]at hy
  have:=h i j x hi hj hx hy
  omega
theorem cohB_iff {ts:List T3}:Bu ts=true↔Coh ts:=by unfold Bu;rw[decide_eq_true_eq];exact coh_iff
theorem Qmz {ts:List T3} {i j:Nat} (hi:i<ts.length) (hj:j<ts.length) {a b:P2} (ha:a∈Q7 (tAt ts i)) (hb:b∈Q7 (tAt ts j)) (h:a.und=b.und):adjI ts i j :=
 ⟨_,_,Zq hi,Zq hj,a,ha,b,hb,h⟩
theorem mem_all {ts:List T3} {e:P2}:e∈Qa ts↔∃i:Nat,i<ts.length/\e∈Q7 (tAt ts i):=by
 unfold Qa
 rw[jm]
 constructor
 ·rintro⟨t,ht,he⟩
  obtain⟨i,hi⟩:=qq ht
  have hl:=(q8.1 hi).1
  rw[Zq hl]at hi
  obtain rfl:=Option.some.inj hi
  exact⟨i,hl,he⟩
 ·rintro⟨i,hl,he⟩
  exact⟨_,qb (Zq hl),he⟩
def Clo (ts:List T3):Prop:=∀e∈Qa ts,e.rev∈Qa ts
theorem Qcw {m:Mesh} (hz:m.check=0) (hc:Coh m.tris) (h:Clo m.tris):m.closed=true:=by
 unfold Mesh.closed
 simp only[Bool.and_eq_true,decide_eq_true_eq]
 refine⟨hz,?_⟩
 rw[List.eq_nil_iff_forall_not_mem]
 intro e he
 rw[mem_border]at he
 obtain⟨_,h1,h2⟩:=he
 unfold Mesh.use at h2
 rw[if_pos hz,if_pos hz]at h2
 have h3:=List.nodup_iff_count.1 (coh_iff.2 hc) e
 have h4:0<(Qa m.tris).count e.rev:=List.count_pos_iff.2 (h e h1)
 omega
def Mesh.coh (m:Mesh):Bool:=decide (m.check=0) && Bu m.tris
def Q05 (P:Program) (f:FuncId):Prop:=∀m:Mesh,CallIs P f [m.enc] (.b m.coh)
section
variable {P:Program} (hm:P.follows .mixedOrders=true)
include hm
theorem Um {f fc fh:FuncId} (hf:Q9 P f (L0i.c fc fh) L0i.r L0i.n) (hc:Jl P fc) (hh:CohC P fh):Q05 P f:=by
 intro m
 refine PureC.is (Q8 hm hf (qh rfl) ?_) rfl
 unfold L0i.c
 simp[go_sem,Mesh.enc,Mesh.cs]
 refine Q5 (hc m) ?_
 by_cases h:m.check=0
 ·have hl:=(Mesh.check_zero.1 h).2.1
  simp[go_sem,h]
  refine Q5 (hh m.tris (by omega)) ?_
  simp[go_sem,L0i.r,Mesh.coh,h]
 ·have h':(m.check == 0)=false:=by simpa using h
  simp[go_sem,h,h',L0i.r,Mesh.coh]
end
theorem Mesh.v_valid {m:Mesh} (h:Jm m.verts=true) {i:Int} (hi:i<m.verts.length):(m.v i).valid=true:=by
 unfold Mesh.v
 cases hp:m.verts[i.toNat]? with
 | none=>rfl
 | some p=>exact Q8d h hp
def V3.sub (a b:V3):V3:=⟨a.x-b.x,a.y-b.y,a.z-b.z⟩
def V3.crs (a b:V3):V3:=⟨a.y*b.z-a.z*b.y,a.z*b.x-a.x*b.z,a.x*b.y-a.y*b.x⟩
def We (a b c:V3):Bool:=a.valid && (b.valid && (c.valid && decide ((b.sub a).crs (c.sub a)=⟨0,0,0⟩)))
def Mesh.deg (m:Mesh) (t:T3):Bool:=We (m.v t.a) (m.v t.b) (m.v t.c)
def L25.c (L0d L1x:FuncId):C :=(.seq (.reg [Au 2 (.box (.t 0)),Ab 4 false]) (.seq (.reg [Ag 10 2 2,Am 11 1,Au 12 (.call L0d [.t 10,.t 11]),Am 9 12,Ax1 13 0 9,Ax1 14 1 9,Ax1 15 2 9,Ax1 16 3 9,Au 5 (.alloc [(.i .i64 0),(.i .i64 0),(.i .i64 0)]),Au 6 (.alloc [(.i .i64 0),(.i .i64 0),(.i .i64 0)]),Au 7 (.alloc [(.i .i64 0),(.i .i64 0),(.i .i64 0)]),As 3 5 13,As 3 6 14,As 3 7 15,Am 8 16]) (.seq (.reg [Am 17 8,Am 18 17,Av 19 18 (.ld (some 3) (.t 5)),Av 20 18 (.ld (some 3) (.t 6)),Av 21 18 (.ld (some 3) (.t 7)),Av 22 18 (.call L1x [.t 19,.t 20,.t 21]),Ap 23 18 22,Am 4 23]) .ret)))
def L25.r:List Rr:=[.tmp 4]
abbrev L25.n:Nat:=24
def L1x.c (L22 L21 L1y:FuncId):C :=(.seq (.reg [Au 3 (.box (.t 0)),Au 4 (.box (.t 1)),Au 5 (.box (.t 2)),Ab 6 false]) (.seq (.drw [Ag 7 3 3,Au 8 (.call L22 [.t 7]),Am 9 8,Av 10 9 (.ld (some 3) (.t 4)),Av 11 9 (.call L22 [.t 10]),Ap 12 9 11,Am 13 12,Av 14 13 (.ld (some 3) (.t 5)),Av 15 13 (.call L22 [.t 14]),Ap 16 13 15,Am 17 16,Av 18 17 (.ld (some 3) (.t 4)),Av 19 17 (.ld (some 3) (.t 3)),Av 20 17 (.call L21 [.t 18,.t 19]),Av 21 17 (.ld (some 3) (.t 5)),Av 22 17 (.ld (some 3) (.t 3)),Av 23 17 (.call L21 [.t 21,.t 22]),Av 24 17 (.call L1y [.t 20,.t 23]),Av 25 17 (.build [(.i .i64 0),(.i .i64 0),(.i .i64 0)] []),
 Av 26 17 (.eqa [1,1,1] false (.t 24) (.t 25)),Ap 27 17 26,Am 6 27] [[],[],[],[],[],[],[],[],[],[],[],[],[],[],[13],[13],[],[],[],[],[],[]]) .ret))
def L1x.r:List Rr:=[.tmp 6]
abbrev L1x.n:Nat:=28
def L21.c (L22:FuncId):C :=(.seq (.reg [Au 2 (.box (.t 0)),Au 3 (.box (.t 1)),Au 4 (.alloc [(.i .i64 0),(.i .i64 0),(.i .i64 0)])]) (.seq (.seq (.reg [Ag 5 3 2,Au 6 (.call L22 [.t 5]),Au 7 (.un .not (.t 6)),Am 8 7,Aw 9 8 (.ld (some 3) (.t 3)),Aw 10 8 (.call L22 [.t 9]),Aw 11 8 (.un .not (.t 10)),Ao 12 8 11]) (.ite (.t 12) (.seq (.reg [Au 13 (.build [(.i .i64 0),(.i .i64 0),(.i .i64 0)] []),As 3 4 13]) .ret) .skip)) (.seq (.reg [Af 14 0 2,Al 15 14,Af 16 0 3,Al 17 16,Aj .sub 18 15 17,Af 19 1 2,Al 20 19,Af 21 1 3,Al 22 21,Aj .sub 23 20 22,Af 24 2 2,Al 25 24,Af 26 2 3,Al 27 26,Aj .sub 28 25 27,Au 29 (.build [(.i .i64 0),(.i .i64 0),(.i .i64 0)] [(0,1,(.t 18)),(1,1,(.t 23)),(2,1,(.t 28))]),
 As 3 4 29]) .ret)))
def L21.r:List Rr:=[.cell 4 (some 3)]
abbrev L21.n:Nat:=30
end Go.Abs
namespace Go.Abs
open Go.Sort
instance:Inhabited V3:=⟨⟨0,0,0⟩⟩
def Qn5 (P:Program) (f:FuncId):Prop:=∀a b:V3,a.valid=true->b.valid=true->CallIs P f [a.enc,b.enc] (a.sub b).enc
def Qey (P:Program) (f:FuncId):Prop:=∀a b:V3,a.within 131072=true->b.within 131072=true->CallIs P f [a.enc,b.enc] (a.crs b).enc
def Q7u (P:Program) (f:FuncId):Prop:=∀a:V3,CallIs P f [a.enc] (.b (a.within 131072))
def Qof (P:Program) (f:FuncId):Prop:=∀a b c:V3,CallIs P f [a.enc,b.enc,c.enc] (.b (We a b c))
section
variable {P:Program} (hm:P.follows .mixedOrders=true)
include hm
theorem Qav {f fv:FuncId} (hf:Q9 P f (L21.c fv) L21.r L21.n) (hv:E8 P fv):Qn5 P f:=by
 intro a b h1 h2
 have g1:=V3.valid_iff.1 h1
 have g2:=V3.valid_iff.1 h2
 refine PureC.is (Q8 hm hf (qh rfl) ?_) rfl
 unfold L21.c
 simp[go_sem,V3.enc,vcs]
 refine Q5 (hv a) ?_
 simp[go_sem,h1]
 refine Q5 (hv b) ?_
 simp (disch:=omega) [go_sem,h2,Q3,L21.r,V3.sub]
theorem Q3o {f fw:FuncId} (hf:Q9 P f (L23.c fw) L23.r L23.n) (hw:Wy P fw):Q7u P f:=by
 intro a
 refine PureC.is (Q8 hm hf (qh rfl) ?_) rfl
 unfold L23.c
 simp[go_sem,V3.enc,vcs]
 refine Q5 ((hw a 131072 (by omega) (by omega)).is rfl) ?_
 simp[go_sem,L23.r]
theorem Q3p {f fv:FuncId} (hf:Q9 P f (L1y.c fv) L1y.r L1y.n) (hv:Q7u P fv):Qey P f:=by
 intro a b h1 h2
 have g1:(-131072<=a.x/\a.x<=131072/\-131072<=a.y/\a.y<=131072/\-131072<=a.z/\a.z<=131072):=by simpa[V3.within,and_assoc]using h1
 have g2:(-131072<=b.x/\b.x<=131072/\-131072<=b.y/\b.y<=131072/\-131072<=b.z/\b.z<=131072):=by simpa[V3.within,and_assoc]using h2
 have m1:=Qbx (x:=a.y) (y:=b.z) (A:=131072) (B:=131072) (by omega) (by omega) (by omega) (by omega)
 have m2:=Qbx (x:=a.z) (y:=b.y) (A:=131072) (B:=131072) (by omega) (by omega) (by omega) (by omega)
 have m3:=Qbx (x:=a.z) (y:=b.x) (A:=131072) (B:=131072) (by omega) (by omega) (by omega) (by omega)
 have m4:=Qbx (x:=a.x) (y:=b.z) (A:=131072) (B:=131072) (by omega) (by omega) (by omega) (by omega)
 have m5:=Qbx (x:=a.x) (y:=b.y) (A:=131072) (B:=131072) (by omega) (by omega) (by omega) (by omega)
 have m6:=Qbx (x:=a.y) (y:=b.x) (A:=131072) (B:=131072) (by omega) (by omega) (by omega) (by omega)
 refine PureC.is (Q8 hm hf (qh rfl) ?_) rfl
 unfold L1y.c
 simp[go_sem,V3.enc,vcs]
 refine Q5 (hv a) ?_
 simp[go_sem,h1]
 refine Q5 (hv b) ?_
 simp (disch:=omega) [go_sem,h2,Q3,L1y.r,V3.crs]
omit hm in
theorem Q1u {a b:V3} (h1:a.valid=true) (h2:b.valid=true):(a.sub b).within 131072=true:=by
 have g1:=V3.valid_iff.1 h1
 have g2:=V3.valid_iff.1 h2
 simp only[V3.within,Bool.and_eq_true,decide_eq_true_eq]
 simp only[V3.sub]
 omega
omit hm in
theorem v3_zero (v:V3):decide (v=⟨0,0,0⟩)=(v.x == 0 && (v.y == 0 && v.z == 0)):=by
 cases v;rw[Bool.eq_iff_iff];simp[V3.mk.injEq]
theorem Ir {f fv fs fc:FuncId} (hf:Q9 P f (L1x.c fv fs fc) L1x.r L1x.n) (hv:E8 P fv) (hs:Qn5 P fs) (hc:Qey P fc):Qof P f:=by
 intro a b c
 refine PureC.is (Q8 hm hf (qh rfl) ?_) rfl
 unfold L1x.c
 simp[go_sem,V3.enc,vcs]
 refine Ql (hv a) ?_
 cases h1:a.valid
 ·simp[go_sem,L1x.r,We,h1]
 simp[go_sem]
 refine Ql (hv b) ?_
 cases h2:b.valid
 ·simp[go_sem,L1x.r,We,h1,h2]
 simp[go_sem]
 refine Ql (hv c) ?_
 cases h3:c.valid
 ·simp[go_sem,L1x.r,We,h1,h2,h3]
 simp[go_sem]
 refine Ql (hs b a h2 h1) ?_
 simp[go_sem]
 refine Ql (hs c a h3 h1) ?_
 simp[go_sem]
 refine Ql (hc _ _ (Q1u h2 h1) (Q1u h3 h1)) ?_
 simp[go_sem,V3.enc,vcs,L1x.r,We,h1,h2,h3,v3_zero]
end
end Go.Abs
namespace Go.Abs
open Go.Sort
def dd (l:List V3):List V3:=l.foldl (λacc v=>if v∈acc then acc else acc++[v]) []
def Mesh.degI (m:Mesh) (i:Int):Bool:=if 0<=i/\i<m.tris.length/\m.check=0 then match m.tris[i.toNat]? with
    | some t=>m.deg t
    | none=>false
 else false
def DegC (P:Program) (f:FuncId):Prop:=∀(m:Mesh) (i:Int),CallIs P f [m.enc,.i .i64 i] (.b (m.degI i))
section
variable {P:Program} (hm:P.follows .mixedOrders=true)
include hm
theorem Uf {f fc fv:FuncId} (hf:Q9 P f (L25.c fc fv) L25.r L25.n) (hc:Io P fc) (hv:Qof P fv):DegC P f:=by
 intro m i
 refine PureC.is (Q8 hm hf (qh rfl) ?_) rfl
 unfold L25.c
 simp[go_sem,Mesh.enc,Mesh.cs]
 refine Q5 (hc m i) ?_
 by_cases h:0<=i/\i<m.tris.length/\m.check=0
 ·obtain⟨t,ht⟩:∃t,m.tris[i.toNat]?=some t:=⟨_,q9 (show i.toNat<m.tris.length by omega)⟩
  have e1:m.corners i=.t [(m.v t.a).enc,(m.v t.b).enc,(m.v t.c).enc,.b true]:=by unfold Mesh.corners;rw[if_pos h,ht]
  have e2:m.degI i=m.deg t:=by unfold Mesh.degI;rw[if_pos h,ht]
  rw[e1,e2]
  simp[go_sem,V3.enc,vcs]
  refine Q5 (hv (m.v t.a) (m.v t.b) (m.v t.c)) ?_
  simp[go_sem,L25.r,Mesh.deg]
 ·have e1:m.corners i=.t [zV3,zV3,zV3,.b false]:=by unfold Mesh.corners;rw[if_neg h]
  have e2:m.degI i=false:=by unfold Mesh.degI;rw[if_neg h]
  rw[e1,e2]
  simp[go_sem,zV3,L25.r]
end
def V3.inR (v:V3):Bool:=inI v.x && inI v.y && inI v.z
def Qk:List T3:=[⟨0,2,3⟩,⟨0,3,1⟩,⟨4,5,7⟩,⟨4,7,6⟩,⟨0,1,5⟩,⟨0,5,4⟩,⟨2,6,7⟩,⟨2,7,3⟩,⟨0,4,6⟩,⟨0,6,2⟩,⟨1,3,7⟩,⟨1,7,5⟩]
def Qad (p s:V3):V :=
 if s.x<1∨s.y<1∨s.z<1 then Q2x noMesh 1
 else if p.valid=true/\(p.add s).valid=true then Q2x ⟨Qd p s,Qk⟩ 0
 else Q2x noMesh 8
def BoxC (P:Program) (f:FuncId):Prop:=∀p s:V3,p.inR=true->s.inR=true->CallIs P f [p.enc,s.enc] (Qad p s)
theorem Q8e (p:V3):Jm [p]=p.valid:=by simp[Jm]
theorem Q3m {p s:V3} (h1:p.valid=true) (h2:(p.add s).valid=true):s.within 131072=true:=by
 have a1:=V3.valid_iff.1 h1
 have a2:=V3.valid_iff.1 h2
 simp only[V3.add]at a2
 rw[within_iff];omega
section
variable {P:Program} (hm:P.follows .mixedOrders=true)
include hm
theorem Q3u {f ff fn fp fc fl:FuncId} (hf:Q9 P f (L1h.c ff fn fp fc fl) L1h.r L1h.n)
  (hfit:Qdj P ff) (hnear:Qnt P fn) (hplus:Qex P fp) (hcor:Q04 P fc) (hcl:Qdm P fl 3):BoxC P f:=by
 intro p s hp hs
 by_cases h1:s.x<1∨s.y<1∨s.z<1
 ·have hb:Qad p s=Q2x noMesh 1:=by simp[Qad,h1]
  rw[hb]
  refine CallIs.res (r:=.t [.a [.nil,.nil],.i .i64 1]) ?_ (Q4z 1)
  refine PureC.is (Q8 hm hf (qh rfl) ?_) rfl
  unfold L1h.c
  have h2:min s.x (min s.y s.z)<1:=by omega
  simp[go_sem,V3.enc,V3.cs,Bi,h2,L1h.r]
 have h2:¬ min s.x (min s.y s.z)<1:=by omega
 by_cases hok:p.valid=true/\(p.add s).valid=true
 ·have hb:Qad p s=Q2x ⟨Qd p s,Qk⟩ 0:=by simp[Qad,h1,hok]
  have hw:=Q3m hok.1 hok.2
  rw[hb]
  refine PureC.is (Q8 hm hf (qh rfl) ?_) rfl
  unfold L1h.c
  simp[go_sem,V3.enc,V3.cs,Bi,h2]
  refine Q5 (hfit [p] (by simp)) ?_
  simp[go_sem,Q8e,hok.1]
  refine Q5 (hnear s) ?_
  simp[go_sem,hw]
  refine Q5 (hplus p s) ?_
  rw[Q97 hok.1 hw]
  simp[go_sem,V3.enc,V3.cs]
  refine Q5 (hfit [p.add s] (by simp)) ?_
  simp[go_sem,Q8e,hok.2]
  refine Q5 (hcor p s hok.1 hw) ?_
  simp[go_sem,V3.cs,Qd]
  refine Q5v (hcl _ (by simp[V.isD]) (by simp)) rfl ?_
  simp[go_sem,L1h.r,V3.cs,Q2x,Mesh.enc,Mesh.cs,vsV,tsV,Qk,T3.cs]
 ·have hb:Qad p s=Q2x noMesh 8:=by simp[Qad,h1,hok]
  rw[hb]
  refine CallIs.res (r:=.t [.a [.nil,.nil],.i .i64 8]) ?_ (Q4z 8)
  refine PureC.is (Q8 hm hf (qh rfl) ?_) rfl
  unfold L1h.c
  simp[go_sem,V3.enc,V3.cs,Bi,h2]
  refine Q5 (hfit [p] (by simp)) ?_
  cases hpv:p.valid
  ·simp[go_sem,Q8e,hpv,L1h.r]
  simp[go_sem,Q8e,hpv]
  refine Q5 (hnear s) ?_
  cases hw:s.within 131072
  ·simp[go_sem,L1h.r]
  simp[go_sem]
  refine Q5 (hplus p s) ?_
  rw[Q97 hpv hw]
  simp[go_sem,V3.enc,V3.cs]
  refine Q5 (hfit [p.add s] (by simp)) ?_
  have hav:(p.add s).valid=false:=by rw[Bool.eq_false_iff];exact λh=>hok ⟨hpv,h⟩
  simp[go_sem,Q8e,hav,L1h.r]
end
def mixed {α:Type} (l:List α) (g:α->α) (k:Nat):List α:=(l.take k).map g++l.drop k
noncomputable def Mesh.inv (m:Mesh):Bool:=m.shells.any λsh=>decide (Yy m.verts (Zj m.tris sh)<0)
noncomputable def Bw (m:Mesh):Int :=
 if m.check≠0 then m.check else if m.closed=false then 12 else if Bu m.tris=false then 13 else if m.tris.any m.deg=true then 1 else if m.inv=true then 1 else 0
structure Snd (m:Mesh):Prop where
 z:m.check=0
 clo:m.closed=true
 coh:Coh m.tris
 deg:∀t∈m.tris,m.deg t=false
 vol:∀sh∈m.shells,0<=Yy m.verts (Zj m.tris sh)
theorem snd_iff {m:Mesh}:Bw m=0↔Snd m:=by
 unfold Bw
 constructor
 ·intro h
  by_cases h1:m.check=0
  case neg=>rw[if_pos h1]at h;exact absurd h h1
  rw[if_neg (by simpa using h1)]at h
  by_cases h2:m.closed=false
  case pos=>rw[if_pos h2]at h;simp at h
  rw[if_neg h2]at h
  by_cases h3:Bu m.tris=false
  case pos=>rw[if_pos h3]at h;simp at h
  rw[if_neg h3]at h
  by_cases h4:m.tris.any m.deg=true
  case pos=>rw[if_pos h4]at h;simp at h
  rw[if_neg h4]at h
  by_cases h5:m.inv=true
  case pos=>rw[if_pos h5]at h;simp at h
  refine⟨h1,by simpa using h2,cohB_iff.1 (by simpa using h3),?_,?_⟩
  ·intro t ht
   cases hd:m.deg t with
   | false=>rfl
   | true=>exact absurd (List.any_eq_true.2 ⟨t,ht,hd⟩) h4
  ·intro sh hs
   by_cases hn:Yy m.verts (Zj m.tris sh)<0
   ·exact absurd (List.any_eq_true.2 ⟨sh,hs,by simpa using hn⟩) h5
   ·omega
 ·intro h
  have h4:m.tris.any m.deg=false:=by
   rw[List.any_eq_false];intro t ht;rw[h.deg t ht];simp
  have h5:m.inv=false:=by
   unfold Mesh.inv
   rw[List.any_eq_false];intro sh hs;have:=h.vol sh hs;simp;omega
  rw[if_neg (by simpa using h.z),if_neg (by rw[h.clo];simp),if_neg (by rw[cohB_iff.2 h.coh];simp),if_neg (by rw[h4];simp),if_neg (by rw[h5];simp)]
def Qcb (U:List Int) (x:Int):List Int:=if x∈U then U else U++[x]
def Qcc (U:List Int) (t:T3):List Int:=Qcb (Qcb (Qcb U t.a) t.b) t.c
def Ju (ts:List T3):List Int:=ts.foldl Qcc []
theorem Qaz (ts:List T3) (t:T3):Ju (ts++[t])=Qcc (Ju ts) t:=by simp[Ju]
theorem Q6w {U:List Int} (h:U.Nodup) (x:Int):(Qcb U x).Nodup/\(∀v,v∈Qcb U x↔v∈U∨v=x)/\(Qcb U x).length<=U.length+1:=by
 unfold Qcb
 split
 ·rename_i hx
  exact⟨h,λv=>⟨.inl,λhh=>hh.elim id (λe=>e ▸ hx)⟩,by omega⟩
 ·rename_i hx
  refine⟨?_,λv=>by simp,by simp⟩
  rw[List.nodup_append]
  exact⟨h,by simp,λa ha b hb=>by simp at hb;subst hb;rintro rfl;exact hx ha⟩
theorem insT_ok {U:List Int} (h:U.Nodup) (t:T3):(Qcc U t).Nodup/\(∀v,v∈Qcc U t↔v∈U∨v=t.a∨v=t.b∨v=t.c)/\(Qcc U t).length<=U.length+3:=by
 obtain⟨a1,a2,a3⟩:=Q6w h t.a
 obtain⟨b1,b2,b3⟩:=Q6w a1 t.b
 obtain⟨c1,c2,c3⟩:=Q6w b1 t.c
 refine⟨c1,λv=>?_,by unfold Qcc;omega⟩
 unfold Qcc
 rw[c2,b2,a2,or_assoc,or_assoc]
theorem Qii (ts:List T3):(Ju ts).Nodup/\(∀v,v∈Ju ts↔∃t∈ts,v=t.a∨v=t.b∨v=t.c)/\(Ju ts).length<=3*ts.length:=by
 have key:∀k,k<=ts.length->(Ju (ts.take k)).Nodup/\(∀v,v∈Ju (ts.take k)↔∃t∈ts.take k,v=t.a∨v=t.b∨v=t.c)/\(Ju (ts.take k)).length<=3*k:=by
  intro k
  induction k with
  | zero=>intro _;simp[Ju]
  | succ k ih =>
    intro hk
    obtain⟨h1,h2,h3⟩:=ih (by omega)
    have hp:ts[k]?=some ts[k]:=q9 (by omega)
    rw[Qf hp,Qaz]
    obtain⟨i1,i2,i3⟩:=insT_ok h1 ts[k]
    refine⟨i1,λv=>?_,by omega⟩
    rw[i2,h2]
    constructor
    ·rintro (⟨t,ht,hv⟩ | hv)
     ·exact⟨t,qg.2 (.inl ht),hv⟩
     ·exact⟨ts[k],qg.2 (.inr (by simp)),hv⟩
    ·rintro⟨t,ht,hv⟩
     rcases qg.1 ht with h | h
     ·exact .inl ⟨t,h,hv⟩
     ·simp at h;subst h;exact .inr hv
 have:=key ts.length (Nat.le_refl _)
 rwa [qi]at this
def Mesh.euler (m:Mesh):Int:=if m.check=0 then ((Ju m.tris).length:Int)-m.edgesL.length+m.tris.length else 0
theorem Q98 {l k:List Int} (hl:l.Nodup) (hk:k.Nodup) (h:∀v,v∈l↔v∈k):l.Perm k:=by
 rw[List.perm_iff_count]
 intro v
 have c:∀{l:List Int},l.Nodup->l.count v=if v∈l then 1 else 0:=λ{l} hl=>by
  by_cases he:v∈l
  ·rw[if_pos he]
   have h1:=List.count_pos_iff.2 he
   have h2:=List.nodup_iff_count.1 hl v
   omega
  ·rw[if_neg he];exact List.count_eq_zero.2 he
 rw[c hl,c hk]
 by_cases hv:v∈l
 ·rw[if_pos hv,if_pos ((h v).1 hv)]
 ·rw[if_neg hv,if_neg (λhh=>hv ((h v).2 hh))]
structure Sphere (T:List T3) (n:Nat):Prop where
 pos:0<T.length
 own:∃f:P2->Nat,∀p,p<T.length->∀e∈Q7 (tAt T p),f e=p
 clo:∀p,p<T.length->∀e∈Q7 (tAt T p),∃q,q<T.length/\e.rev∈Q7 (tAt T q)
 one:∀i,i<T.length->Conn T 0 i
 ok:Kr n T=true
 flat:∀t∈T,t.a≠t.b/\t.b≠t.c/\t.c≠t.a
 used:∀v:Nat,v<n->∃t∈T,(v:Int)=t.a∨(v:Int)=t.b∨(v:Int)=t.c
 num:T.length+4=2*n
theorem Sphere.coh {T:List T3} {n:Nat} (h:Sphere T n):Coh T:=by
 obtain⟨f,hf⟩:=h.own
 intro i j e hi hj h1 h2
 rw[<- hf i hi e h1,hf j hj e h2]
theorem Sphere.Clo {T:List T3} {n:Nat} (h:Sphere T n):Go.Abs.Clo T:=by
 intro e he
 obtain⟨p,hp,h1⟩:=mem_all.1 he
 obtain⟨q,hq,h2⟩:=h.clo p hp e h1
 exact mem_all.2 ⟨q,hq,h2⟩
theorem Q2g:∀n,0<n->((List.range n).filter λi=>decide (i=0)).length=1
 | 0,h=>by omega
 | 1,_=>by simp
 | n+2,_=>by
   rw[List.range_succ,List.filter_append,j3,Q2g (n+1) (by omega)]
   simp
theorem Sphere.shells {m:Mesh} {n:Nat} (h:Sphere m.tris n) (hz:m.check=0):m.shells.length=1:=by
 obtain⟨L,hL⟩:=Q6t m.tris
 have hR:m.shells=Xr L m.tris.length:=by unfold Mesh.shells;rw[if_pos hz,I7 hL,hL.len]
 have h0:L[0]?=some 0:=by
  have h1:L[0]?=some (L[0]'(by rw[hL.len];exact h.pos)):=q9 _
  obtain⟨a,b,_⟩:=hL.con 0 _ h1
  rw[h1];congr 1;omega
 rw[hR]
 unfold Xr
 rw[List.length_map]
 have:(List.range m.tris.length).filter (λ(i:Nat)=>decide (L[i]?=some (i:Int)))=(List.range m.tris.length).filter λi=>decide (i=0):=by
  refine List.filter_congr λi hi=>?_
  rw[decide_eq_decide,<- hL.conn (h.one i (qy.1 hi)),h0]
  constructor
  ·intro hh;have:=Option.some.inj hh;omega
  ·rintro rfl;rfl
 rw[this]
 exact Q2g _ h.pos
theorem Q7g {t:T3} (h:t.a≠t.b/\t.b≠t.c/\t.c≠t.a):Q7 t=Js t:=by
 have h2:Q7 t=(Js t).filter λe=>decide (e.x≠e.y):=rfl
 rw[h2]
 unfold Js
 simp[h.1,h.2.1,h.2.2]
theorem Ik:∀{T:List T3},(∀t∈T,t.a≠t.b/\t.b≠t.c/\t.c≠t.a)->(Qa T).length=3*T.length
 | [],_=>rfl
 | t::T,h=>by
   have h0:Qa (t::T)=Q7 t++Qa T:=rfl
   rw[h0,j3,Ik (λx hx=>h x (by simp[hx])),Q7g (h t (by simp)),List.length_cons]
   simp only[Js,List.length_cons,List.length_nil];omega
theorem Qhl {l:List P2} (h:asc l):l.Nodup:=by
 unfold asc at h
 exact h.imp λ{a b} hab=>by rintro rfl;exact P2.lt_irrefl a hab
theorem Sphere.edges {m:Mesh} {n:Nat} (h:Sphere m.tris n) (hz:m.check=0):2*m.edgesL.length=3*m.tris.length:=by
 rw[<- Ik h.flat]
 have hnd:=coh_iff.2 h.coh
 have hcl:∀e∈Qa m.tris,e.rev∈Qa m.tris:=h.Clo
 have hne:∀e∈Qa m.tris,e.x≠e.y:=λe he=>Qd3 he
 have hE:m.edgesL=Wi ((Qa m.tris).map P2.und):=by unfold Mesh.edgesL;rw[if_pos hz]
 rw[hE]
 generalize Qa m.tris=A at *
 have hB1:(Wi (A.map P2.und)).length=(A.filter λe=>decide (e.x<e.y)).length:=by
  have hm:∀a,a∈Wi (A.map P2.und)↔a∈A.filter λe=>decide (e.x<e.y):=λa=>by
   rw[Wq,qo,qu,decide_eq_true_eq]
   constructor
   ·rintro⟨e,he,rfl⟩
    by_cases hlt:e.x<e.y
    ·rw[Qil hlt];exact⟨he,hlt⟩
    ·rw[und_gt hlt]
     have:=hne e he
     exact⟨hcl e he,by show e.y<e.x;omega⟩
   ·rintro⟨he,hlt⟩
    exact⟨a,he,Qil hlt⟩
  refine Nat.le_antisymm (J0 (Qhl (Wx _)) λa ha=>(hm a).1 ha) (J0 (hnd.filter _) λa ha=>(hm a).2 ha)
 have hB2:(A.filter λe=>decide (e.x<e.y)).length=(A.filter λe=>!decide (e.x<e.y)).length:=by
  have hinj:∀l:List P2,l.Nodup->(l.map P2.rev).Nodup:=λl hl=>by
   rw[List.nodup_iff_pairwise_ne,jd]
   exact hl.imp λ{a b} hab hh=>hab (by have:=congrArg P2.rev hh;exact this)
  refine Nat.le_antisymm ?_ ?_
  ·have:=J0 (hinj _ (hnd.filter λe=>decide (e.x<e.y))) (B:=A.filter λe=>!decide (e.x<e.y)) λa ha=>by
    obtain⟨b,hb,rfl⟩:=qo.1 ha
    obtain⟨h1,h2⟩:=qu.1 hb
    rw[decide_eq_true_eq]at h2
    refine qu.2 ⟨hcl b h1,?_⟩
    have:¬ b.rev.x<b.rev.y:=by show ¬ b.y<b.x;omega
    simp[this]
   simpa using this
  ·have:=J0 (hinj _ (hnd.filter λe=>!decide (e.x<e.y))) (B:=A.filter λe=>decide (e.x<e.y)) λa ha=>by
    obtain⟨b,hb,rfl⟩:=qo.1 ha
    obtain⟨h1,h2⟩:=qu.1 hb
    have h3:¬ b.x<b.y:=by simpa using h2
    have h4:=hne b h1
    refine qu.2 ⟨hcl b h1,?_⟩
    have:b.rev.x<b.rev.y:=by show b.y<b.x;omega
    simpa using this
   simpa using this
 have hsum:A.length=(A.filter λe=>decide (e.x<e.y)).length+(A.filter λe=>!decide (e.x<e.y)).length:=by
  generalize A=l
  induction l with
  | nil=>rfl
  | cons a l ih =>
    rw[List.filter_cons,List.filter_cons,List.length_cons]
    by_cases hh:a.x<a.y<;>simp[hh]<;>omega
 omega
theorem Sphere.euler {m:Mesh} (h:Sphere m.tris m.verts.length) (hz:m.check=0):m.euler=2:=by
 have hE:=h.edges hz
 obtain⟨u1,u2,_⟩:=Qii m.tris
 have hU:(Ju m.tris).length=m.verts.length:=by
  have hp:(Ju m.tris).Perm ((List.range m.verts.length).map λ(j:Nat)=>(j:Int)):=by
   refine Q98 u1 ?_ λv=>?_
   ·rw[List.nodup_iff_pairwise_ne,jd]
    have h0:(List.range m.verts.length).Nodup:=List.nodup_range
    rw[List.nodup_iff_pairwise_ne]at h0
    exact h0.imp λ{a b:Nat} (h:a≠b) (hh:(a:Int)=(b:Int))=>h (by omega)
   ·rw[u2,qo]
    constructor
    ·rintro⟨t,ht,hv⟩
     obtain⟨a1,a2,b1,b2,c1,c2⟩:=T3.ok_iff.1 (qj.1 h.ok t ht)
     exact⟨v.toNat,qy.2 (by omega),by omega⟩
    ·rintro⟨j,hj,rfl⟩
     exact h.used j (qy.1 hj)
  have:=hp.length_eq
  simpa using this
 have hn:=h.num
 unfold Mesh.euler
 rw[if_pos hz,hU]
 omega
theorem Sphere.all {m:Mesh} (h:Sphere m.tris m.verts.length) (hz:m.check=0):m.closed=true/\m.coh=true/\m.shells.length=1/\m.euler=2 :=
 ⟨Qcw hz h.coh h.Clo,by unfold Mesh.coh;rw[hz,cohB_iff.2 h.coh];rfl,h.shells hz,h.euler hz⟩
def boxOwn (e:P2):Nat:=((List.range 12).find? λp=>decide (e∈Q7 (tAt Qk p))).getD 0
theorem Ys {i j:Nat} (h:((decide (i<12) && decide (j<12)) && (Q7 (tAt Qk i)).any λa=>(Q7 (tAt Qk j)).any λb=>decide (a.und=b.und))=true):adjI Qk i j:=by
 simp only[Bool.and_eq_true,decide_eq_true_eq,List.any_eq_true]at h
 obtain⟨⟨h1,h2⟩,a,ha,b,hb,hab⟩:=h
 exact Qmz h1 h2 ha hb hab
theorem box_sphere:Sphere Qk 8 where
 pos:=by decide
 own:=⟨boxOwn,by decide⟩
 clo:=by decide
 one:=by
  have c0:Conn Qk 0 0:=.refl (by decide)
  have c1:Conn Qk 0 1:=c0.tail (Ys (by decide))
  have c4:Conn Qk 0 4:=c1.tail (Ys (by decide))
  have c5:Conn Qk 0 5:=c4.tail (Ys (by decide))
  have c2:Conn Qk 0 2:=c5.tail (Ys (by decide))
  have c3:Conn Qk 0 3:=c2.tail (Ys (by decide))
  have c6:Conn Qk 0 6:=c3.tail (Ys (by decide))
  have c7:Conn Qk 0 7:=c6.tail (Ys (by decide))
  have c8:Conn Qk 0 8:=c5.tail (Ys (by decide))
  have c9:Conn Qk 0 9:=c8.tail (Ys (by decide))
  have c10:Conn Qk 0 10:=c7.tail (Ys (by decide))
  have c11:Conn Qk 0 11:=c10.tail (Ys (by decide))
  intro i hi
  have hi:i<12:=hi
  match i,hi with
  | 0,_=>exact c0
  | 1,_=>exact c1
  | 2,_=>exact c2
  | 3,_=>exact c3
  | 4,_=>exact c4
  | 5,_=>exact c5
  | 6,_=>exact c6
  | 7,_=>exact c7
  | 8,_=>exact c8
  | 9,_=>exact c9
  | 10,_=>exact c10
  | 11,_=>exact c11
 ok:=by decide
 flat:=by decide
 used:=by decide
 num:=by decide
end Go.Abs
