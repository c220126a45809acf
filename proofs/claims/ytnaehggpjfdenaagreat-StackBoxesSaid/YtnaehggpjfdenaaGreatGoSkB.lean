/- Part of the library on which the proof stands: an abstract machine, its values and its soundness against the model; or what functions of the program do to such values. -/
import Derived.Test.YtnaehggpjfdenaaGreatGoDet
import Derived.Test.YtnaehggpjfdenaaGreatGoMapG
import Derived.Test.YtnaehggpjfdenaaGreatGoSo
import Derived.Test.YtnaehggpjfdenaaGreatGoRevC
import Derived.Test.YtnaehggpjfdenaaGreatGoTpD
import Derived.Test.YtnaehggpjfdenaaGreatGoTo
import Derived.Test.YtnaehggpjfdenaaGreatGoRw
import Derived.Test.YtnaehggpjfdenaaGreatGoMap
import Derived.Test.YtnaehggpjfdenaaGreatGoSecD
set_option linter.unusedVariables false
set_option linter.unusedSimpArgs false
set_option maxHeartbeats 4000000
namespace Go.Abs
def Zj (ts:List T3) (sh:List Int):List T3:=sh.map λv=>tAt ts v.toNat
structure ShOk (n:Nat) (shs:List (List Int)):Prop where
 num:shs.length<=n
 len:∀sh∈shs,sh.length<=n
 mem:∀sh∈shs,∀v∈sh,0<=v/\v<n
 nodup:shs.flatten.Nodup
theorem Qd7 (L:List Int) (i k:Nat):(shK L i k).Nodup:=by
 have hsh:(shK L i k).Pairwise λa b=>a<b:=by
  unfold shK
  rw[jf]
  have h1:(List.range k).Pairwise (λa b:Nat=>a<b):=List.pairwise_lt_range
  exact(h1.filter _).imp λ{a b:Nat} (h:a<b)=>by show (a:Int)<(b:Int);omega
 exact hsh.imp λh=>by omega
theorem mem_shK2 {L:List Int} {i k:Nat} {v:Int}:v∈shK L i k↔∃j:Nat,v=(j:Int)/\j<k/\L[j]?=some (i:Int):=by
 unfold shK
 rw[qq]
 constructor
 ·rintro⟨j,hj,rfl⟩
  have hf:=qw.1 hj
  exact⟨j,rfl,j3.1 hf.1,by simpa using hf.2⟩
 ·rintro⟨j,rfl,h1,h2⟩
  exact⟨j,qw.2 ⟨j3.2 h1,by simpa using h2⟩,rfl⟩
theorem shsK_mem {L:List Int} {k:Nat} {sh:List Int}:sh∈Xv L k↔∃i:Nat,i<k/\L[i]?=some (i:Int)/\sh=shK L i L.length:=by
 unfold Xv
 rw[qq]
 constructor
 ·rintro⟨i,hi,rfl⟩
  have hf:=qw.1 hi
  exact⟨i,j3.1 hf.1,by simpa using hf.2,rfl⟩
 ·rintro⟨i,h1,h2,rfl⟩
  exact⟨i,qw.2 ⟨j3.2 h1,by simpa using h2⟩,rfl⟩
theorem Qd5 (L:List Int) (k:Nat):(Xv L k).flatten.Nodup:=by
 induction k with
 | zero=>simp[Xv]
 | succ k ih =>
   rw[Q62]
   split
   ·rw[List.flatten_append,List.nodup_append]
    refine⟨ih,by simpa using Qd7 L k L.length,λa ha b hb=>?_⟩
    simp at hb
    obtain⟨sh,hs,has⟩:=List.mem_flatten.1 ha
    obtain⟨i,hi,_,rfl⟩:=shsK_mem.1 hs
    obtain⟨j,rfl,_,hj⟩:=mem_shK2.1 has
    rintro rfl
    obtain⟨j',hjj,_,hj'⟩:=mem_shK2.1 hb
    obtain rfl:j=j':=by omega
    rw[hj]at hj'
    have:=Option.some.inj hj'
    omega
   ·simpa using ih
theorem Qhr {m:Mesh} (hz:m.check=0):ShOk m.tris.length m.shells:=by
 obtain⟨L,hL⟩:=Q88 m.tris
 have hR:m.shells=Xv L m.tris.length:=by unfold Mesh.shells;rw[if_pos hz,Iw hL,hL.len]
 rw[hR]
 refine⟨?_,λsh hs=>?_,λsh hs v hv=>?_,Qd5 _ _⟩
 ·unfold Xv
  rw[List.length_map]
  have:=ja (λ(i:Nat)=>decide (L[i]?=some (i:Int))) (List.range m.tris.length)
  rwa [List.length_range]at this
 ·obtain⟨i,_,_,rfl⟩:=shsK_mem.1 hs
  unfold shK
  rw[List.length_map]
  have:=ja (λ(j:Nat)=>decide (L[j]?=some (i:Int))) (List.range L.length)
  rw[List.length_range,hL.len]at this
  rw[hL.len]
  omega
 ·obtain⟨i,_,_,rfl⟩:=shsK_mem.1 hs
  obtain⟨j,rfl,h1,_⟩:=mem_shK2.1 hv
  rw[hL.len]at h1
  omega
theorem tAt_ok {n:Nat} {ts:List T3} (h:W6 n ts=true) {i:Nat} (hi:i<ts.length):(tAt ts i).ok n=true:=Q2p h (Zo hi)
theorem Qdl {m:Mesh} (hz:m.check=0) {sh:List Int} (hl:sh.length<=m.tris.length) (hv:∀v∈sh,0<=v/\v<m.tris.length):(Mesh.mk m.verts (Zj m.tris sh)).check=0:=by
 obtain⟨z1,z2,z3,z4⟩:=Mesh.check_zero.1 hz
 refine Mesh.check_zero.2 ⟨z1,by simp[Zj];omega,z3,?_⟩
 simp only[W6,ql,Zj,qq]
 rintro t ⟨v,hvs,rfl⟩
 have:=hv v hvs
 exact tAt_ok z4 (by omega)
theorem Q5s (t:T3):(Q7 t).Nodup:=by
 have h0:Q7 t=(K2 t).filter λe=>decide (e.x≠e.y):=rfl
 rw[h0,List.nodup_iff_pairwise_ne,List.pairwise_filter]
 unfold K2
 simp only[jb,List.mem_cons,List.not_mem_nil,or_false,decide_eq_true_eq,ne_eq,false_implies,implies_true,List.Pairwise.nil,and_true,P2.mk.injEq]
 refine⟨λx hx h1 h2=>?_,λx hx h1 h2=>?_⟩
 ·rcases hx with rfl | rfl
  ·simp only[P2.mk.injEq];simp only at h1 h2;omega
  ·simp only[P2.mk.injEq];simp only at h1 h2;omega
 ·subst hx
  simp only[P2.mk.injEq];simp only at h1 h2;omega
def Coh (ts:List T3):Prop:=∀(i j:Nat) (e:P2),i<ts.length->j<ts.length->e∈Q7 (tAt ts i)->e∈Q7 (tAt ts j)->i=j
theorem Bm {ts:List T3} {i:Nat} (h:i<ts.length):ts[i]=tAt ts i:=by
 have:=Zo h
 rw[qb h]at this
 exact Option.some.inj this
theorem coh_iff {ts:List T3}:(Qb ts).Nodup↔Coh ts:=by
 have h0:(Qb ts).Nodup↔(∀t∈ts,(Q7 t).Nodup)/\ts.Pairwise λs t=>∀x∈Q7 s,∀y∈Q7 t,x≠y:=List.pairwise_flatMap
 rw[h0,j6]
 constructor
 ·rintro⟨_,h⟩ i j e hi hj h1 h2
  rcases Nat.lt_trichotomy i j with hh | hh | hh
  ·exact absurd rfl (h i j hi hj hh e (by rw[Bm hi];exact h1) e (by rw[Bm hj];exact h2))
  ·exact hh
  ·exact absurd rfl (h j i hj hi hh e (by rw[Bm hj];exact h2) e (by rw[Bm hi];exact h1))
 ·intro h
  refine⟨λt _=>Q5s t,λi j hi hj hij x hx y hy=>?_⟩
  rintro rfl
  rw[Bm hi]at hx
  rw[Bm hj]at hy
  have:=h i j x hi hj hx hy
  omega
theorem cohB_iff {ts:List T3}:Q0j ts=true↔Coh ts:=by unfold Q0j;rw[decide_eq_true_eq];exact coh_iff
theorem Qp2 {ts:List T3} {i j:Nat} (hi:i<ts.length) (hj:j<ts.length) {a b:P2} (ha:a∈Q7 (tAt ts i)) (hb:b∈Q7 (tAt ts j)) (h:a.und=b.und):adjI ts i j :=
 ⟨_,_,Zo hi,Zo hj,a,ha,b,hb,h⟩
theorem mem_all {ts:List T3} {e:P2}:e∈Qb ts↔∃i:Nat,i<ts.length/\e∈Q7 (tAt ts i):=by
 unfold Qb
 rw[jm]
 constructor
 ·rintro⟨t,ht,he⟩
  obtain⟨i,hi⟩:=qt ht
  have hl:=(qa.1 hi).1
  rw[Zo hl]at hi
  obtain rfl:=Option.some.inj hi
  exact⟨i,hl,he⟩
 ·rintro⟨i,hl,he⟩
  exact⟨_,qe (Zo hl),he⟩
def Clo (ts:List T3):Prop:=∀e∈Qb ts,e.rev∈Qb ts
theorem Qep {m:Mesh} (hz:m.check=0) (hc:Coh m.tris) (h:Clo m.tris):m.closed=true:=by
 unfold Mesh.closed
 simp only[Bool.and_eq_true,decide_eq_true_eq]
 refine⟨hz,?_⟩
 rw[List.eq_nil_iff_forall_not_mem]
 intro e he
 rw[mem_border]at he
 obtain⟨_,h1,h2⟩:=he
 unfold Mesh.use at h2
 rw[if_pos hz,if_pos hz]at h2
 have h3:=List.nodup_iff_count.1 (coh_iff.2 hc) e
 have h4:0<(Qb m.tris).count e.rev:=List.count_pos_iff.2 (h e h1)
 omega
def Mesh.coh (m:Mesh):Bool:=decide (m.check=0) && Q0j m.tris
def Q0u (P:Program) (f:FuncId):Prop:=∀m:Mesh,CallIs P f [m.enc] (.b m.coh)
section
variable {P:Program} (hm:P.follows .mixedOrders=true)
include hm
theorem Eb {f fc fh:FuncId} (hf:Q9 P f (L0h.c fc fh) L0h.r L0h.n) (hc:Js P fc) (hh:CohC P fh):Q0u P f:=by
 intro m
 refine PureC.is (Q8 hm hf (qj rfl) ?_) rfl
 unfold L0h.c
 simp[go_sem,Mesh.enc,Mesh.cs]
 refine Q5 (hc m) ?_
 by_cases h:m.check=0
 ·have hl:=(Mesh.check_zero.1 h).2.1
  simp[go_sem,h]
  refine Q5 (hh m.tris (by omega)) ?_
  simp[go_sem,L0h.r,Mesh.coh,h]
 ·have h':(m.check == 0)=false:=by simpa using h
  simp[go_sem,h,h',L0h.r,Mesh.coh]
end
theorem Mesh.v_valid {m:Mesh} (h:Ja m.verts=true) {i:Int} (hi:i<m.verts.length):(m.v i).valid=true:=by
 unfold Mesh.v
 cases hp:m.verts[i.toNat]? with
 | none=>rfl
 | some p=>exact Q9x h hp
def V3.sub (a b:V3):V3:=⟨a.x-b.x,a.y-b.y,a.z-b.z⟩
def V3.crs (a b:V3):V3:=⟨a.y*b.z-a.z*b.y,a.z*b.x-a.x*b.z,a.x*b.y-a.y*b.x⟩
def Wo (a b c:V3):Bool:=a.valid && (b.valid && (c.valid && decide ((b.sub a).crs (c.sub a)=⟨0,0,0⟩)))
def Mesh.deg (m:Mesh) (t:T3):Bool:=Wo (m.v t.a) (m.v t.b) (m.v t.c)
def L2g.c (L0d L28:FuncId):C :=(.seq (.reg [Au 2 (.box (.t 0)),Ab 4 false]) (.seq (.reg [Ag 10 2 2,Am 11 1,Au 12 (.call L0d [.t 10,.t 11]),Am 9 12,Ax1 13 0 9,Ax1 14 1 9,Ax1 15 2 9,Ax1 16 3 9,Au 5 (.alloc [(.i .i64 0),(.i .i64 0),(.i .i64 0)]),Au 6 (.alloc [(.i .i64 0),(.i .i64 0),(.i .i64 0)]),Au 7 (.alloc [(.i .i64 0),(.i .i64 0),(.i .i64 0)]),As 3 5 13,As 3 6 14,As 3 7 15,Am 8 16]) (.seq (.reg [Am 17 8,Am 18 17,Av 19 18 (.ld (some 3) (.t 5)),Av 20 18 (.ld (some 3) (.t 6)),Av 21 18 (.ld (some 3) (.t 7)),Av 22 18 (.call L28 [.t 19,.t 20,.t 21]),Ap 23 18 22,Am 4 23]) .ret)))
def L2g.r:List Rr:=[.tmp 4]
abbrev L2g.n:Nat:=24
def L28.c (L2d L2c L29:FuncId):C :=(.seq (.reg [Au 3 (.box (.t 0)),Au 4 (.box (.t 1)),Au 5 (.box (.t 2)),Ab 6 false]) (.seq (.drw [Ag 7 3 3,Au 8 (.call L2d [.t 7]),Am 9 8,Av 10 9 (.ld (some 3) (.t 4)),Av 11 9 (.call L2d [.t 10]),Ap 12 9 11,Am 13 12,Av 14 13 (.ld (some 3) (.t 5)),Av 15 13 (.call L2d [.t 14]),Ap 16 13 15,Am 17 16,Av 18 17 (.ld (some 3) (.t 4)),Av 19 17 (.ld (some 3) (.t 3)),Av 20 17 (.call L2c [.t 18,.t 19]),Av 21 17 (.ld (some 3) (.t 5)),Av 22 17 (.ld (some 3) (.t 3)),Av 23 17 (.call L2c [.t 21,.t 22]),Av 24 17 (.call L29 [.t 20,.t 23]),Av 25 17 (.build [(.i .i64 0),(.i .i64 0),(.i .i64 0)] []),
 Av 26 17 (.eqa [1,1,1] false (.t 24) (.t 25)),Ap 27 17 26,Am 6 27] [[],[],[],[],[],[],[],[],[],[],[],[],[],[],[13],[13],[],[],[],[],[],[]]) .ret))
def L28.r:List Rr:=[.tmp 6]
abbrev L28.n:Nat:=28
def L2c.c (L2d:FuncId):C :=(.seq (.reg [Au 2 (.box (.t 0)),Au 3 (.box (.t 1)),Au 4 (.alloc [(.i .i64 0),(.i .i64 0),(.i .i64 0)])]) (.seq (.seq (.reg [Ag 5 3 2,Au 6 (.call L2d [.t 5]),Au 7 (.un .not (.t 6)),Am 8 7,Aw 9 8 (.ld (some 3) (.t 3)),Aw 10 8 (.call L2d [.t 9]),Aw 11 8 (.un .not (.t 10)),Ao 12 8 11]) (.ite (.t 12) (.seq (.reg [Au 13 (.build [(.i .i64 0),(.i .i64 0),(.i .i64 0)] []),As 3 4 13]) .ret) .skip)) (.seq (.reg [Af 14 0 2,Al 15 14,Af 16 0 3,Al 17 16,Aj .sub 18 15 17,Af 19 1 2,Al 20 19,Af 21 1 3,Al 22 21,Aj .sub 23 20 22,Af 24 2 2,Al 25 24,Af 26 2 3,Al 27 26,Aj .sub 28 25 27,Au 29 (.build [(.i .i64 0),(.i .i64 0),(.i .i64 0)] [(0,1,(.t 18)),(1,1,(.t 23)),(2,1,(.t 28))]),
 As 3 4 29]) .ret)))
def L2c.r:List Rr:=[.cell 4 (some 3)]
abbrev L2c.n:Nat:=30
end Go.Abs
namespace Go.Abs
open Go.Sort
instance:Inhabited V3:=⟨⟨0,0,0⟩⟩
def Qp9 (P:Program) (f:FuncId):Prop:=∀a b:V3,a.valid=true->b.valid=true->CallIs P f [a.enc,b.enc] (a.sub b).enc
def Qgr (P:Program) (f:FuncId):Prop:=∀a b:V3,a.within 131072=true->b.within 131072=true->CallIs P f [a.enc,b.enc] (a.crs b).enc
def Q9b (P:Program) (f:FuncId):Prop:=∀a:V3,CallIs P f [a.enc] (.b (a.within 131072))
def Qqg (P:Program) (f:FuncId):Prop:=∀a b c:V3,CallIs P f [a.enc,b.enc,c.enc] (.b (Wo a b c))
section
variable {P:Program} (hm:P.follows .mixedOrders=true)
include hm
theorem Qcp {f fv:FuncId} (hf:Q9 P f (L2c.c fv) L2c.r L2c.n) (hv:I0 P fv):Qp9 P f:=by
 intro a b h1 h2
 have g1:=V3.valid_iff.1 h1
 have g2:=V3.valid_iff.1 h2
 refine PureC.is (Q8 hm hf (qj rfl) ?_) rfl
 unfold L2c.c
 simp[go_sem,V3.enc,vcs]
 refine Q5 (hv a) ?_
 simp[go_sem,h1]
 refine Q5 (hv b) ?_
 simp (disch:=omega) [go_sem,h2,Q3,L2c.r,V3.sub]
theorem Q4q {f fw:FuncId} (hf:Q9 P f (L2e.c fw) L2e.r L2e.n) (hw:Ue P fw):Q9b P f:=by
 intro a
 refine PureC.is (Q8 hm hf (qj rfl) ?_) rfl
 unfold L2e.c
 simp[go_sem,V3.enc,vcs]
 refine Q5 ((hw a 131072 (by omega) (by omega)).is rfl) ?_
 simp[go_sem,L2e.r]
theorem Q4r {f fv:FuncId} (hf:Q9 P f (L29.c fv) L29.r L29.n) (hv:Q9b P fv):Qgr P f:=by
 intro a b h1 h2
 have g1:(-131072<=a.x/\a.x<=131072/\-131072<=a.y/\a.y<=131072/\-131072<=a.z/\a.z<=131072):=by simpa[V3.within,and_assoc]using h1
 have g2:(-131072<=b.x/\b.x<=131072/\-131072<=b.y/\b.y<=131072/\-131072<=b.z/\b.z<=131072):=by simpa[V3.within,and_assoc]using h2
 have m1:=Qds (x:=a.y) (y:=b.z) (A:=131072) (B:=131072) (by omega) (by omega) (by omega) (by omega)
 have m2:=Qds (x:=a.z) (y:=b.y) (A:=131072) (B:=131072) (by omega) (by omega) (by omega) (by omega)
 have m3:=Qds (x:=a.z) (y:=b.x) (A:=131072) (B:=131072) (by omega) (by omega) (by omega) (by omega)
 have m4:=Qds (x:=a.x) (y:=b.z) (A:=131072) (B:=131072) (by omega) (by omega) (by omega) (by omega)
 have m5:=Qds (x:=a.x) (y:=b.y) (A:=131072) (B:=131072) (by omega) (by omega) (by omega) (by omega)
 have m6:=Qds (x:=a.y) (y:=b.x) (A:=131072) (B:=131072) (by omega) (by omega) (by omega) (by omega)
 refine PureC.is (Q8 hm hf (qj rfl) ?_) rfl
 unfold L29.c
 simp[go_sem,V3.enc,vcs]
 refine Q5 (hv a) ?_
 simp[go_sem,h1]
 refine Q5 (hv b) ?_
 simp (disch:=omega) [go_sem,h2,Q3,L29.r,V3.crs]
omit hm in
theorem Q2t {a b:V3} (h1:a.valid=true) (h2:b.valid=true):(a.sub b).within 131072=true:=by
 have g1:=V3.valid_iff.1 h1
 have g2:=V3.valid_iff.1 h2
 simp only[V3.within,Bool.and_eq_true,decide_eq_true_eq]
 simp only[V3.sub]
 omega
omit hm in
theorem v3_zero (v:V3):decide (v=⟨0,0,0⟩)=(v.x == 0 && (v.y == 0 && v.z == 0)):=by
 cases v;rw[Bool.eq_iff_iff];simp[V3.mk.injEq]
theorem Bh {f fv fs fc:FuncId} (hf:Q9 P f (L28.c fv fs fc) L28.r L28.n) (hv:I0 P fv) (hs:Qp9 P fs) (hc:Qgr P fc):Qqg P f:=by
 intro a b c
 refine PureC.is (Q8 hm hf (qj rfl) ?_) rfl
 unfold L28.c
 simp[go_sem,V3.enc,vcs]
 refine Qn (hv a) ?_
 cases h1:a.valid
 ·simp[go_sem,L28.r,Wo,h1]
 simp[go_sem]
 refine Qn (hv b) ?_
 cases h2:b.valid
 ·simp[go_sem,L28.r,Wo,h1,h2]
 simp[go_sem]
 refine Qn (hv c) ?_
 cases h3:c.valid
 ·simp[go_sem,L28.r,Wo,h1,h2,h3]
 simp[go_sem]
 refine Qn (hs b a h2 h1) ?_
 simp[go_sem]
 refine Qn (hs c a h3 h1) ?_
 simp[go_sem]
 refine Qn (hc _ _ (Q2t h2 h1) (Q2t h3 h1)) ?_
 simp[go_sem,V3.enc,vcs,L28.r,Wo,h1,h2,h3,v3_zero]
end
end Go.Abs
namespace Go.Abs
open Go.Sort
def dd (l:List V3):List V3:=l.foldl (λacc v=>if v∈acc then acc else acc++[v]) []
def Mesh.degI (m:Mesh) (i:Int):Bool:=if 0<=i/\i<m.tris.length/\m.check=0 then match m.tris[i.toNat]? with
    | some t=>m.deg t
    | none=>false
 else false
def DegC (P:Program) (f:FuncId):Prop:=∀(m:Mesh) (i:Int),CallIs P f [m.enc,.i .i64 i] (.b (m.degI i))
section
variable {P:Program} (hm:P.follows .mixedOrders=true)
include hm
theorem E3 {f fc fv:FuncId} (hf:Q9 P f (L2g.c fc fv) L2g.r L2g.n) (hc:Bd P fc) (hv:Qqg P fv):DegC P f:=by
 intro m i
 refine PureC.is (Q8 hm hf (qj rfl) ?_) rfl
 unfold L2g.c
 simp[go_sem,Mesh.enc,Mesh.cs]
 refine Q5 (hc m i) ?_
 by_cases h:0<=i/\i<m.tris.length/\m.check=0
 ·obtain⟨t,ht⟩:∃t,m.tris[i.toNat]?=some t:=⟨_,qb (show i.toNat<m.tris.length by omega)⟩
  have e1:m.corners i=.t [(m.v t.a).enc,(m.v t.b).enc,(m.v t.c).enc,.b true]:=by unfold Mesh.corners;rw[if_pos h,ht]
  have e2:m.degI i=m.deg t:=by unfold Mesh.degI;rw[if_pos h,ht]
  rw[e1,e2]
  simp[go_sem,V3.enc,vcs]
  refine Q5 (hv (m.v t.a) (m.v t.b) (m.v t.c)) ?_
  simp[go_sem,L2g.r,Mesh.deg]
 ·have e1:m.corners i=.t [zV3,zV3,zV3,.b false]:=by unfold Mesh.corners;rw[if_neg h]
  have e2:m.degI i=false:=by unfold Mesh.degI;rw[if_neg h]
  rw[e1,e2]
  simp[go_sem,zV3,L2g.r]
end
def V3.inR (v:V3):Bool:=inI v.x && inI v.y && inI v.z
def Qh:List T3:=[⟨0,2,3⟩,⟨0,3,1⟩,⟨4,5,7⟩,⟨4,7,6⟩,⟨0,1,5⟩,⟨0,5,4⟩,⟨2,6,7⟩,⟨2,7,3⟩,⟨0,4,6⟩,⟨0,6,2⟩,⟨1,3,7⟩,⟨1,7,5⟩]
def Q91 (p s:V3):V :=
 if s.x<1∨s.y<1∨s.z<1 then Q25 Q3r 1
 else if p.valid=true/\(p.add s).valid=true then Q25 ⟨Qa p s,Qh⟩ 0
 else Q25 Q3r 8
def Qqk (P:Program) (f:FuncId):Prop:=∀p s:V3,p.inR=true->s.inR=true->CallIs P f [p.enc,s.enc] (Q91 p s)
theorem Q9y (p:V3):Ja [p]=p.valid:=by simp[Ja]
theorem Q4o {p s:V3} (h1:p.valid=true) (h2:(p.add s).valid=true):s.within 131072=true:=by
 have a1:=V3.valid_iff.1 h1
 have a2:=V3.valid_iff.1 h2
 simp only[V3.add]at a2
 rw[within_iff];omega
section
variable {P:Program} (hm:P.follows .mixedOrders=true)
include hm
theorem Q4y {f ff fn fp fc fl:FuncId} (hf:Q9 P f (L1k.c ff fn fp fc fl) L1k.r L1k.n)
  (hfit:Qfb P ff) (hnear:Qpx P fn) (hplus:Qgp P fp) (hcor:Q0t P fc) (hcl:Qfe P fl 3):Qqk P f:=by
 intro p s hp hs
 by_cases h1:s.x<1∨s.y<1∨s.z<1
 ·have hb:Q91 p s=Q25 Q3r 1:=by simp[Q91,h1]
  rw[hb]
  refine CallIs.res (r:=.t [.a [.nil,.nil],.i .i64 1]) ?_ (Q6d 1)
  refine PureC.is (Q8 hm hf (qj rfl) ?_) rfl
  unfold L1k.c
  have h2:min s.x (min s.y s.z)<1:=by omega
  simp[go_sem,V3.enc,V3.cs,Q09,h2,L1k.r]
 have h2:¬ min s.x (min s.y s.z)<1:=by omega
 by_cases hok:p.valid=true/\(p.add s).valid=true
 ·have hb:Q91 p s=Q25 ⟨Qa p s,Qh⟩ 0:=by simp[Q91,h1,hok]
  have hw:=Q4o hok.1 hok.2
  rw[hb]
  refine PureC.is (Q8 hm hf (qj rfl) ?_) rfl
  unfold L1k.c
  simp[go_sem,V3.enc,V3.cs,Q09,h2]
  refine Q5 (hfit [p] (by simp)) ?_
  simp[go_sem,Q9y,hok.1]
  refine Q5 (hnear s) ?_
  simp[go_sem,hw]
  refine Q5 (hplus p s) ?_
  rw[Qaw hok.1 hw]
  simp[go_sem,V3.enc,V3.cs]
  refine Q5 (hfit [p.add s] (by simp)) ?_
  simp[go_sem,Q9y,hok.2]
  refine Q5 (hcor p s hok.1 hw) ?_
  simp[go_sem,V3.cs,Qa]
  refine Q76 (hcl _ (by simp[V.isD]) (by simp)) rfl ?_
  simp[go_sem,L1k.r,V3.cs,Q25,Mesh.enc,Mesh.cs,vsV,tsV,Qh,T3.cs]
 ·have hb:Q91 p s=Q25 Q3r 8:=by simp[Q91,h1,hok]
  rw[hb]
  refine CallIs.res (r:=.t [.a [.nil,.nil],.i .i64 8]) ?_ (Q6d 8)
  refine PureC.is (Q8 hm hf (qj rfl) ?_) rfl
  unfold L1k.c
  simp[go_sem,V3.enc,V3.cs,Q09,h2]
  refine Q5 (hfit [p] (by simp)) ?_
  cases hpv:p.valid
  ·simp[go_sem,Q9y,hpv,L1k.r]
  simp[go_sem,Q9y,hpv]
  refine Q5 (hnear s) ?_
  cases hw:s.within 131072
  ·simp[go_sem,L1k.r]
  simp[go_sem]
  refine Q5 (hplus p s) ?_
  rw[Qaw hpv hw]
  simp[go_sem,V3.enc,V3.cs]
  refine Q5 (hfit [p.add s] (by simp)) ?_
  have hav:(p.add s).valid=false:=by rw[Bool.eq_false_iff];exact λh=>hok ⟨hpv,h⟩
  simp[go_sem,Q9y,hav,L1k.r]
end
def mixed {α:Type} (l:List α) (g:α->α) (k:Nat):List α:=(l.take k).map g++l.drop k
noncomputable def Mesh.inv (m:Mesh):Bool:=m.shells.any λsh=>decide (Yz m.verts (Zj m.tris sh)<0)
noncomputable def Wp (m:Mesh):Int :=
 if m.check≠0 then m.check else if m.closed=false then 12 else if Q0j m.tris=false then 13 else if m.tris.any m.deg=true then 1 else if m.inv=true then 1 else 0
structure Snd (m:Mesh):Prop where
 z:m.check=0
 clo:m.closed=true
 coh:Coh m.tris
 deg:∀t∈m.tris,m.deg t=false
 vol:∀sh∈m.shells,0<=Yz m.verts (Zj m.tris sh)
theorem snd_iff {m:Mesh}:Wp m=0↔Snd m:=by
 unfold Wp
 constructor
 ·intro h
  by_cases h1:m.check=0
  case neg=>rw[if_pos h1]at h;exact absurd h h1
  rw[if_neg (by simpa using h1)]at h
  by_cases h2:m.closed=false
  case pos=>rw[if_pos h2]at h;simp at h
  rw[if_neg h2]at h
  by_cases h3:Q0j m.tris=false
  case pos=>rw[if_pos h3]at h;simp at h
  rw[if_neg h3]at h
  by_cases h4:m.tris.any m.deg=true
  case pos=>rw[if_pos h4]at h;simp at h
  rw[if_neg h4]at h
  by_cases h5:m.inv=true
  case pos=>rw[if_pos h5]at h;simp at h
  refine⟨h1,by simpa using h2,cohB_iff.1 (by simpa using h3),?_,?_⟩
  ·intro t ht
   cases hd:m.deg t with
   | false=>rfl
   | true=>exact absurd (List.any_eq_true.2 ⟨t,ht,hd⟩) h4
  ·intro sh hs
   by_cases hn:Yz m.verts (Zj m.tris sh)<0
   ·exact absurd (List.any_eq_true.2 ⟨sh,hs,by simpa using hn⟩) h5
   ·omega
 ·intro h
  have h4:m.tris.any m.deg=false:=by
   rw[List.any_eq_false];intro t ht;rw[h.deg t ht];simp
  have h5:m.inv=false:=by
   unfold Mesh.inv
   rw[List.any_eq_false];intro sh hs;have:=h.vol sh hs;simp;omega
  rw[if_neg (by simpa using h.z),if_neg (by rw[h.clo];simp),if_neg (by rw[cohB_iff.2 h.coh];simp),if_neg (by rw[h4];simp),if_neg (by rw[h5];simp)]
def Qbj (top h:Int):Nat:=((top-h / 2+h-1) / h).toNat
theorem Qg9 {top h:Int} (hh:0<h) {i:Nat}:i<Qbj top h↔(i:Int)*h+h / 2<top:=by
 unfold Qbj
 have h1:(i:Int)<(top-h / 2+h-1) / h↔(i:Int)*h<top-h / 2:=by
  rw[show ((i:Int)<(top-h / 2+h-1) / h)↔((i:Int)+1<=(top-h / 2+h-1) / h) from Iff.rfl,Int.le_ediv_iff_mul_le hh]
  have:((i:Int)+1)*h=i*h+h:=by grind
  rw[this];omega
 rw[show ((i:Int)*h+h / 2<top)↔((i:Int)*h<top-h / 2) by omega,<- h1]
 omega
def Kp (h:Int) (n:Nat):List Int:=(List.range n).map λ(i:Nat)=>(i:Int)*h+h / 2
theorem Q6i (h:Int) (n:Nat):Kp h (n+1)=Kp h n++[(n:Int)*h+h / 2]:=by simp[Kp,List.range_succ]
theorem Wh (h:Int) (n:Nat):(Kp h n).length=n:=by simp[Kp]
def Q0e (top h:Int):List Int × Int:=if Zf h 4 1024=false then ([],1) else if 256<Qbj top h then ([],2) else (Kp h (Qbj top h),0)
theorem Qbi (top h:Int):(Q0e top h).1.length<=256:=by
 unfold Q0e
 split
 ·simp
 ·split
  ·simp
  ·rename_i h1
   simp only[Wh];omega
def Q5w (u:V3) (l:List V3):V3:=l.foldl (λa w=>⟨min a.x w.x,min a.y w.y,min a.z w.z⟩) u
def Q0m (u:V3) (l:List V3):V3:=l.foldl (λa w=>⟨max a.x w.x,max a.y w.y,max a.z w.z⟩) u
def bLo:List V3->V3
 | []=>⟨0,0,0⟩
 | v::l=>Q5w v (v::l)
def bHi:List V3->V3
 | []=>⟨0,0,0⟩
 | v::l=>Q0m v (v::l)
theorem Qjj (u:V3) (l:List V3) (w:V3):Q5w u (l++[w])=⟨min (Q5w u l).x w.x,min (Q5w u l).y w.y,min (Q5w u l).z w.z⟩:=by simp[Q5w]
theorem Qjk (u:V3) (l:List V3) (w:V3):Q0m u (l++[w])=⟨max (Q0m u l).x w.x,max (Q0m u l).y w.y,max (Q0m u l).z w.z⟩:=by simp[Q0m]
def mxF (f:V3->Int) (a:Int) (l:List V3):Int:=l.foldl (λa w=>max a (f w)) a
theorem Qm6 (f:V3->Int):∀(l:List V3) (a:Int),a<=mxF f a l/\(∀w∈l,f w<=mxF f a l)/\(mxF f a l=a∨∃w∈l,mxF f a l=f w)
 | [],a=>⟨Int.le_refl _,by simp,.inl rfl⟩
 | v::l,a=>by
   have e:mxF f a (v::l)=mxF f (max a (f v)) l:=rfl
   obtain⟨h1,h2,h3⟩:=Qm6 f l (max a (f v))
   rw[e]
   refine⟨by clear h3;omega,λw hw=>?_,?_⟩
   ·rcases List.mem_cons.1 hw with rfl | hw
    ·clear h3;omega
    ·exact h2 w hw
   ·rcases h3 with h3 | ⟨w,hw,h3⟩
    ·rw[h3]
     by_cases c:f v<=a
     ·exact .inl (by omega)
     ·exact .inr ⟨v,by simp,by omega⟩
    ·exact .inr ⟨w,by simp[hw],h3⟩
theorem Qoy:∀(l:List V3) (u:V3),(Q0m u l).x=mxF V3.x u.x l/\(Q0m u l).y=mxF V3.y u.y l/\(Q0m u l).z=mxF V3.z u.z l
 | [],u=>⟨rfl,rfl,rfl⟩
 | v::l,u=>Qoy l ⟨max u.x v.x,max u.y v.y,max u.z v.z⟩
noncomputable def Kl (m:Mesh) (k:Int):List Int->List (List Rw) × Int
 | []=>([],0)
 | z::zs=>if (Zb m z k).2≠0 then ([],(Zb m z k).2) else if (Kl m k zs).2≠0 then ([],(Kl m k zs).2) else ((Zb m z k).1::(Kl m k zs).1,0)
noncomputable def Jf (m:Mesh) (k h:Int):List (List Rw) × Int :=
 if Wp m≠0 then ([],Wp m) else if m.verts=[] then ([],0) else if (bLo m.verts).z<0 then ([],8) else if (Q0e (bHi m.verts).z h).2≠0 then ([],(Q0e (bHi m.verts).z h).2) else Kl m k (Q0e (bHi m.verts).z h).1
def atR (l:List (List Rw)) (i:Nat):List Rw:=(l[i]?).getD []
noncomputable def Q2o (all l:List (List Rw)):List (List Rw):=(List.range (max all.length l.length)).map λi=>K6 (atR all i) (atR l i)
noncomputable def Q4e (k h:Int):List (List Rw)->List Mesh->List (List Rw) × Int
 | acc,[]=>(acc,0)
 | acc,m::ms=>if (Jf m k h).2≠0 then ([],(Jf m k h).2) else Q4e k h (Q2o acc (Jf m k h).1) ms
noncomputable def Wy (ms:List Mesh) (k h:Int):List (List Rw) × Int:=if Zf k 32 1024=false∨Zf h 4 1024=false then ([],1) else Q4e k h [] ms
def W2 (l:List (List Rw)):Prop:=∀g∈l,RgV g/\RgB g
theorem Qlb (m:Mesh) (k:Int):∀zs,W2 (Kl m k zs).1/\(Kl m k zs).1.length<=zs.length
 | []=>by simp[Kl,W2]
 | z::zs=>by
   have ih:=Qlb m k zs
   unfold Kl
   split
   ·simp[W2]
   ·split
    ·simp[W2]
    ·refine⟨λg hg=>?_,by simp;exact ih.2⟩
     rcases List.mem_cons.1 hg with rfl | hg
     ·exact Qlc m z k
     ·exact ih.1 g hg
theorem partR_v (m:Mesh) (k h:Int):W2 (Jf m k h).1/\(Jf m k h).1.length<=256:=by
 unfold Jf
 split
 ·simp[W2]
 ·split
  ·simp[W2]
  ·split
   ·simp[W2]
   ·split
    ·simp[W2]
    ·have h1:=Qlb m k (Q0e (bHi m.verts).z h).1
     have h2:=Qbi (bHi m.verts).z h
     exact⟨h1.1,by omega⟩
theorem Qoz {l:List (List Rw)} (h:W2 l) (i:Nat):RgV (atR l i)/\RgB (atR l i):=by
 unfold atR
 cases hq:l[i]? with
 | none=>exact⟨RgV.nil,RgB.nil⟩
 | some g=>exact h g (qe hq)
theorem uniL_v (a l:List (List Rw)):W2 (Q2o a l):=λg hg=>by
 unfold Q2o at hg
 obtain⟨i,_,rfl⟩:=qq.1 hg
 exact⟨W5 _ _,Qcu _ _⟩
theorem Q2n (a l:List (List Rw)):(Q2o a l).length=max a.length l.length:=by simp[Q2o]
theorem Qa4 {a l:List (List Rw)} {i:Nat} (h:i<max a.length l.length):(Q2o a l)[i]?=some (K6 (atR a i) (atR l i)):=by
 unfold Q2o
 rw[qr,jk h];rfl
theorem Qgu {g:List Rw} (hg:RgV g) (hb:RgB g):K6 g []=g :=
 (W5 g []).ext hg λy x=>by
  rw[Q2d hb RgB.nil]
  constructor
  ·rintro (h | ⟨w,hw,_⟩)
   ·exact h
   ·simp at hw
  ·exact .inl
theorem Qkn {l:List (List Rw)} (h:W2 l):Q2o [] l=l:=by
 refine qz λi=>?_
 by_cases hi:i<l.length
 ·rw[Qa4 (by simp;exact hi)]
  have hq:l[i]?=some l[i]:=qb hi
  obtain⟨h1,h2⟩:=h _ (qe hq)
  have e1:atR [] i=[]:=rfl
  have e2:atR l i=l[i]:=by unfold atR;rw[hq];rfl
  rw[e1,e2,Qa3 h1 h2,hq]
 ·rw[qm (by rw[Q2n];simp;omega),qm (by omega)]
theorem Qcd {k h:Int}:∀{ms:List Mesh} {acc:List (List Rw)},(Q4e k h acc ms).2≠0->(Q4e k h acc ms).1=[]
 | [],acc,hh=>absurd rfl hh
 | m::ms,acc,hh=>by
   unfold Q4e at hh ⊢
   split
   ·rfl
   ·rename_i h1
    rw[if_neg h1]at hh
    exact Qcd hh
theorem I6 {m:Mesh} {k:Int}:∀{zs:List Int},(∀z∈zs,(Zb m z k).2=0)->Kl m k zs=(zs.map λz=>(Zb m z k).1,0)
 | [],_=>rfl
 | z::zs,h=>by
   unfold Kl
   rw[if_neg (by simp[h z (by simp)]),I6 λy hy=>h y (by simp[hy])]
   simp
theorem Qaj {m:Mesh} {k:Int}:∀{zs:List Int} {i:Nat} {z:Int},zs[i]?=some z->(∀x∈zs.take i,(Zb m x k).2=0)->(Zb m z k).2≠0->Kl m k zs=([],(Zb m z k).2)
 | [],i,z,h,_,_=>by simp at h
 | y::zs,0,z,h,_,he=>by
   simp at h
   subst h
   unfold Kl
   rw[if_pos he]
 | y::zs,i+1,z,h,hp,he=>by
   have ih:=Qaj (m:=m) (k:=k) (zs:=zs) (i:=i) (by simpa using h) (λx hx=>hp x (by simp[hx])) he
   unfold Kl
   rw[if_neg (by simp[hp y (by simp)]),ih,if_pos he]
end Go.Abs
