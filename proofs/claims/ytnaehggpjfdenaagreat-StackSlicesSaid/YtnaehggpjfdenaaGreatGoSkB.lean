/- Part of the library on which the proof stands: an abstract machine, its values and its soundness against the model; or what functions of the program do to such values. -/
import Derived.Test.YtnaehggpjfdenaaGreatGoDet
import Derived.Test.YtnaehggpjfdenaaGreatGoSl
import Derived.Test.YtnaehggpjfdenaaGreatGoRevC
import Derived.Test.YtnaehggpjfdenaaGreatGoTk
import Derived.Test.YtnaehggpjfdenaaGreatGoCsA
import Derived.Test.YtnaehggpjfdenaaGreatGoHeap
import Derived.Test.YtnaehggpjfdenaaGreatGoMap
set_option linter.unusedVariables false
set_option linter.unusedSimpArgs false
set_option maxHeartbeats 4000000
set_option maxRecDepth 4000
namespace Go.Abs
def Z4 (ts:List T3) (sh:List Int):List T3:=sh.map λv=>tAt ts v.toNat
structure ShOk (n:Nat) (shs:List (List Int)):Prop where
 num:shs.length<=n
 len:∀sh∈shs,sh.length<=n
 mem:∀sh∈shs,∀v∈sh,0<=v/\v<n
 nodup:shs.flatten.Nodup
theorem Qlx (L:List Int) (i k:Nat):(shK L i k).Nodup:=by
 have hsh:(shK L i k).Pairwise λa b=>a<b:=by
  unfold shK;rw[ji];have h1:(List.range k).Pairwise (λa b:Nat=>a<b):=List.pairwise_lt_range;exact(h1.filter _).imp λ{a b:Nat} (h:a<b)=>by show (a:Int)<(b:Int);omega
 exact hsh.imp λh=>by omega
theorem mem_shK2 {L:List Int} {i k:Nat} {v:Int}:v∈shK L i k↔∃j:Nat,v=(j:Int)/\j<k/\L[j]?=some (i:Int):=by
 unfold shK;rw[qo];constructor
 ·rintro⟨j,hj,rfl⟩;have hf:=qu.1 hj;exact⟨j,rfl,qz.1 hf.1,by simpa using hf.2⟩
 ·rintro⟨j,rfl,h1,h2⟩;exact⟨j,qu.2 ⟨qz.2 h1,by simpa using h2⟩,rfl⟩
theorem shsK_mem {L:List Int} {k:Nat} {sh:List Int}:sh∈Yf L k↔∃i:Nat,i<k/\L[i]?=some (i:Int)/\sh=shK L i L.length:=by
 unfold Yf;rw[qo];constructor
 ·rintro⟨i,hi,rfl⟩;have hf:=qu.1 hi;exact⟨i,qz.1 hf.1,by simpa using hf.2,rfl⟩
 ·rintro⟨i,h1,h2,rfl⟩;exact⟨i,qu.2 ⟨qz.2 h1,by simpa using h2⟩,rfl⟩
theorem Qlu (L:List Int) (k:Nat):(Yf L k).flatten.Nodup:=by
 induction k with
 | zero=>simp[Yf]
 | succ k ih =>
   rw[Q3a];split
   ·rw[List.flatten_append,List.nodup_append];refine⟨ih,by simpa using Qlx L k L.length,λa ha b hb=>?_⟩;simp at hb;obtain⟨sh,hs,has⟩:=List.mem_flatten.1 ha;obtain⟨i,hi,_,rfl⟩:=shsK_mem.1 hs;obtain⟨j,rfl,_,hj⟩:=mem_shK2.1 has;rintro rfl;obtain⟨j',hjj,_,hj'⟩:=mem_shK2.1 hb;obtain rfl:j=j':=by omega
    rw[hj]at hj'
    have:=Option.some.inj hj';omega
   ·simpa using ih
theorem Qds {m:Mesh} (hz:m.check=0):ShOk m.tris.length m.shells:=by
 obtain⟨L,hL⟩:=Qgt m.tris;have hR:m.shells=Yf L m.tris.length:=by unfold Mesh.shells;rw[if_pos hz,Ey hL,hL.len]
 rw[hR];refine⟨?_,λsh hs=>?_,λsh hs v hv=>?_,Qlu _ _⟩
 ·unfold Yf;rw[List.length_map];have:=jc (λ(i:Nat)=>decide (L[i]?=some (i:Int))) (List.range m.tris.length)
  rwa [List.length_range]at this
 ·obtain⟨i,_,_,rfl⟩:=shsK_mem.1 hs;unfold shK;rw[List.length_map];have:=jc (λ(j:Nat)=>decide (L[j]?=some (i:Int))) (List.range L.length);rw[List.length_range,hL.len]at this
  rw[hL.len];omega
 ·obtain⟨i,_,_,rfl⟩:=shsK_mem.1 hs;obtain⟨j,rfl,h1,_⟩:=mem_shK2.1 hv;rw[hL.len]at h1
  omega
theorem tAt_ok {n:Nat} {ts:List T3} (h:Ec n ts=true) {i:Nat} (hi:i<ts.length):(tAt ts i).ok n=true:=Ei h (Zt hi)
theorem Q9o {m:Mesh} (hz:m.check=0) {sh:List Int} (hl:sh.length<=m.tris.length) (hv:∀v∈sh,0<=v/\v<m.tris.length):(Mesh.mk m.verts (Z4 m.tris sh)).check=0:=by
 obtain⟨z1,z2,z3,z4⟩:=Mesh.check_zero.1 hz;refine Mesh.check_zero.2 ⟨z1,by simp[Z4];omega,z3,?_⟩;simp only[Ec,qj,Z4,qo];rintro t ⟨v,hvs,rfl⟩;have:=hv v hvs;exact tAt_ok z4 (by omega)
theorem Qdf (t:T3):(Q4 t).Nodup:=by
 have h0:Q4 t=(Wo t).filter λe=>decide (e.x≠e.y):=rfl
 rw[h0,List.nodup_iff_pairwise_ne,List.pairwise_filter];unfold Wo;simp only[jd,List.mem_cons,List.not_mem_nil,or_false,decide_eq_true_eq,ne_eq,false_implies,implies_true,List.Pairwise.nil,and_true,P2.mk.injEq];refine⟨λx hx h1 h2=>?_,λx hx h1 h2=>?_⟩
 ·rcases hx with rfl | rfl
  ·simp only[P2.mk.injEq];simp only at h1 h2;omega
  ·simp only[P2.mk.injEq];simp only at h1 h2;omega
 ·subst hx;simp only[P2.mk.injEq];simp only at h1 h2;omega
def Coh (ts:List T3):Prop:=∀(i j:Nat) (e:P2),i<ts.length->j<ts.length->e∈Q4 (tAt ts i)->e∈Q4 (tAt ts j)->i=j
theorem Q36 {ts:List T3} {i:Nat} (h:i<ts.length):ts[i]=tAt ts i:=by
 have:=Zt h;rw[q9 h]at this
 exact Option.some.inj this
theorem coh_iff {ts:List T3}:(Q7 ts).Nodup↔Coh ts:=by
 have h0:(Q7 ts).Nodup↔(∀t∈ts,(Q4 t).Nodup)/\ts.Pairwise λs t=>∀x∈Q4 s,∀y∈Q4 t,x≠y:=List.pairwise_flatMap
 rw[h0,j8];constructor
 ·rintro⟨_,h⟩ i j e hi hj h1 h2;rcases Nat.lt_trichotomy i j with hh | hh | hh
  ·exact absurd rfl (h i j hi hj hh e (by rw[Q36 hi];exact h1) e (by rw[Q36 hj];exact h2))
  ·exact hh
  ·exact absurd rfl (h j i hj hi hh e (by rw[Q36 hj];exact h2) e (by rw[Q36 hi];exact h1))
 ·intro h;refine⟨λt _=>Qdf t,λi j hi hj hij x hx y hy=>?_⟩;rintro rfl;rw[Q36 hi]at hx
  rw[Q36 hj]at hy
  have:=h i j x hi hj hx hy;omega
theorem cohB_iff {ts:List T3}:I8 ts=true↔Coh ts:=by unfold I8;rw[decide_eq_true_eq];exact coh_iff
theorem Qzq {ts:List T3} {i j:Nat} (hi:i<ts.length) (hj:j<ts.length) {a b:P2} (ha:a∈Q4 (tAt ts i)) (hb:b∈Q4 (tAt ts j)) (h:a.und=b.und):adjI ts i j :=
 ⟨_,_,Zt hi,Zt hj,a,ha,b,hb,h⟩
theorem mem_all {ts:List T3} {e:P2}:e∈Q7 ts↔∃i:Nat,i<ts.length/\e∈Q4 (tAt ts i):=by
 unfold Q7;rw[jr];constructor
 ·rintro⟨t,ht,he⟩;obtain⟨i,hi⟩:=qq ht;have hl:=(q8.1 hi).1;rw[Zt hl]at hi
  obtain rfl:=Option.some.inj hi;exact⟨i,hl,he⟩
 ·rintro⟨i,hl,he⟩;exact⟨_,qb (Zt hl),he⟩
def Clo (ts:List T3):Prop:=∀e∈Q7 ts,e.rev∈Q7 ts
theorem Qni {m:Mesh} (hz:m.check=0) (hc:Coh m.tris) (h:Clo m.tris):m.closed=true:=by
 unfold Mesh.closed;simp only[Bool.and_eq_true,decide_eq_true_eq];refine⟨hz,?_⟩;rw[List.eq_nil_iff_forall_not_mem];intro e he;rw[mem_border]at he
 obtain⟨_,h1,h2⟩:=he;unfold Mesh.use at h2;rw[if_pos hz,if_pos hz]at h2
 have h3:=List.nodup_iff_count.1 (coh_iff.2 hc) e;have h4:0<(Q7 m.tris).count e.rev:=List.count_pos_iff.2 (h e h1);omega
theorem Q7g {α:Type} {l:List α} {k:Nat} {x:α} (hx:l[k]?=some x) (h:(l.take k).Nodup) (hm:x∉l.take k):(l.take (k+1)).Nodup:=by
 rw[List.take_add_one,hx,List.nodup_append];exact⟨h,by simp,λa ha b hb=>by simp at hb;subst hb;rintro rfl;exact hm ha⟩
theorem p2_ext {x y:P2} (h1:x.x=y.x) (h2:x.y=y.y):x=y:=by cases x;cases y;simp_all
section
variable {P:Program} (hm:P.follows .mixedOrders=true)
include hm
theorem Qce {f:FuncId} (hf:Q5 P f L1s.c L1s.r L1s.n):Xf P f:=by
 intro t;refine PI hm hf ?_;unfold L1s.c;simp[go_sem,T3.enc,T3.cs];have w1:IntKind.i64.wrap 1=1:=rfl;have w2:IntKind.i64.wrap 2=2:=rfl;have w3:IntKind.i64.wrap 3=3:=rfl;refine Qi [.t 4 2] (α:=Nat) (λk=>k<=3)
  (λk=>⟨[(3,.own 1 1 0 3),(4,.own 2 ((Qz t k).length+1) 0 (Qz t k).length),(5,.i .i64 k)],
   [.dead,.arr 1 2 [[.i .i64 t.a,.i .i64 t.b],[.i .i64 t.b,.i .i64 t.c],[.i .i64 t.c,.i .i64 t.a]],.arr ((Qz t k).length+1) 2 ((Qz t k).map P2.cs)]⟩)
  (λk=>3-k) 0 (by omega) ?_ ?_
 ·simp[go_sem,Qb9,V.cl,V.cl1,V.cl0]
 ·intro k hk;have hl:=Zj t k;by_cases h3:k=3
  ·subst h3;simp[go_sem,L1s.r,psV,Q4,Q9p]
  ·have:k=0∨k=1∨k=2:=by omega
   rcases this with rfl | rfl | rfl
   ·have hs:=Qb8 t;generalize hE:Qz t 0=E0 at hs hl;by_cases h:t.a=t.b
    ·rw[if_pos h]at hs
     simp[go_sem,h,w1,w2,w3];exact⟨1,by omega,by omega,by simp[hs],by simp[hs],by simp[Yb]⟩
    ·rw[if_neg h]at hs
     simp[go_sem,h,w1,w2,w3];exact⟨by omega,1,by omega,by omega,by simp[hs],by simp[hs,pcs,or_imp,forall_and,V.cl,V.cl1,V.cl0]⟩
   ·have hs:=Qb7 t;generalize hE:Qz t 1=E0 at hs hl;by_cases h:t.b=t.c
    ·rw[if_pos h]at hs
     simp[go_sem,h,w1,w2,w3];exact⟨2,by omega,by omega,by simp[hs],by simp[hs],by simp[Yb]⟩
    ·rw[if_neg h]at hs
     simp[go_sem,h,w1,w2,w3];exact⟨by omega,2,by omega,by omega,by simp[hs],by simp[hs,pcs,or_imp,forall_and,V.cl,V.cl1,V.cl0]⟩
   ·have hs:=Qb6 t;generalize hE:Qz t 2=E0 at hs hl;by_cases h:t.c=t.a
    ·rw[if_pos h]at hs
     simp[go_sem,h,w1,w2,w3];exact⟨3,by omega,by omega,by simp[hs],by simp[hs],by simp[Yb]⟩
    ·rw[if_neg h]at hs
     simp[go_sem,h,w1,w2,w3];exact⟨by omega,3,by omega,by omega,by simp[hs],by simp[hs,pcs,or_imp,forall_and,V.cl,V.cl1,V.cl0]⟩
theorem Q1r {f fu:FuncId} (hf:Q5 P f (L1q.c fu) L1q.r L1q.n) (hu:Xf P fu):Qty P f:=by
 intro l hl;refine PI hm hf ?_;unfold L1q.c;simp[go_sem,tsV];refine Qi [.t 3 2] (α:=Nat) (λk=>k<=l.length)
  (λk=>⟨[(0,tsV l),(3,.own 0 (k+1) 0 (Q7 (l.take k)).length),(4,.i .i64 k)],[.arr (k+1) 2 ((Q7 (l.take k)).map P2.cs)]⟩)
  (λk=>l.length-k) 0 (by omega) ?_ ?_
 ·simp[go_sem,tsV,Q7]
 ·intro k hk;have hal:(Q7 (l.take k)).length<=3*k:=Yw l k;by_cases hkl:k=l.length
  ·subst hkl;rw[qi]at hal ⊢
   simp[go_sem,tsV];generalize hE:Q7 l=E at hal ⊢;refine Q8 (α:=Nat) (λk=>k<=E.length/\(E.take k).Nodup)
    (λk=>⟨[(3,.own 0 (l.length+1) 0 E.length),(5,.i .i64 k)],[.arr (l.length+1) 2 (E.map P2.cs)]⟩)
    (λk=>E.length-k) 0 ⟨by omega,by simp⟩ ?_ ?_
   ·simp[go_sem,Yb]
   ·rintro i ⟨hi,hnd⟩;by_cases hil:i=E.length
    ·subst hil;rw[qi]at hnd
     simp[go_sem,L1q.r,I8,hE,hnd]
    ·have hilt:i<E.length:=by omega
     have hp:E[i]?=some E[i]:=q9 hilt;generalize E[i]=x at hp;obtain⟨_,hp'⟩:=q8.1 hp;simp[go_sem,hilt];refine Q8 (α:=Nat) (λk=>k<=i/\x∉E.take k)
      (λk=>⟨[(3,.own 0 (l.length+1) 0 E.length),(5,.i .i64 i),(6,.i .i64 k)],[.arr (l.length+1) 2 (E.map P2.cs)]⟩)
      (λk=>i-k) 0 ⟨by omega,by simp⟩ ?_ ?_
     ·simp[go_sem,Yb]
     ·rintro k ⟨hk,hnm⟩;by_cases hki:k=i
      ·subst hki;simp (disch:=omega) [go_sem,Q0];exact⟨k+1,⟨by omega,Q7g hp hnd hnm⟩,by omega,by omega,by simp[Yb]⟩
      ·have hklt:k<E.length:=by omega
       have hq:E[k]?=some E[k]:=q9 hklt;generalize E[k]=y at hq;obtain⟨_,hq'⟩:=q8.1 hq;have hki':k<i:=by omega
       simp[go_sem,hki',hilt,hklt,hp',hq',pcs];by_cases hxy:x=y
       ·refine⟨λ_ _=>?_,λh=>absurd (by rw[hxy]) (h (by rw[hxy]))⟩;have hnn:¬ (Q7 l).Nodup:=by
         rw[hE];intro hall;exact j8.1 hall k i hklt hilt hki' (by rw[hp',hq',hxy])
        simp[go_sem,L1q.r,I8,hnn]
       ·refine⟨λh1 h2=>absurd (p2_ext h1 h2) hxy,λ_=>⟨k+1,⟨by omega,?_⟩,by omega,Q0 (by omega) (by omega)⟩⟩;rw[List.take_add_one,hq];simp[hnm,hxy]
  ·have hlt:k<l.length:=by omega
   have hp:l[k]?=some l[k]:=q9 hlt;generalize l[k]=t at hp;obtain⟨_,hp'⟩:=q8.1 hp;simp[go_sem,tsV,hlt,hp',tcs];refine Q2 (hu t) ?_;have hel:(Q4 t).length<=3:=Zj t 3;simp[go_sem,psV];refine⟨by omega,k+1,by omega,by omega,?_⟩;rw[Zy hp];simp[Yb];exact Q0 (by omega) (by omega)
end
def Mesh.coh (m:Mesh):Bool:=decide (m.check=0) && I8 m.tris
def Kr (P:Program) (f:FuncId):Prop:=∀m:Mesh,CallIs P f [m.enc] (.b m.coh)
section
variable {P:Program} (hm:P.follows .mixedOrders=true)
include hm
theorem Q0i {f fc fh:FuncId} (hf:Q5 P f (L0j.c fc fh) L0j.r L0j.n) (hc:Y0 P fc) (hh:Qty P fh):Kr P f:=by
 intro m;refine PI hm hf ?_;unfold L0j.c;simp[go_sem,Mesh.enc,Mesh.cs];refine Q2 (hc m) ?_;by_cases h:m.check=0
 ·have hl:=(Mesh.check_zero.1 h).2.1;simp[go_sem,h];refine Q2 (hh m.tris (by omega)) ?_;simp[go_sem,L0j.r,Mesh.coh,h]
 ·have h':(m.check == 0)=false:=by simpa using h
  simp[go_sem,h,h',L0j.r,Mesh.coh]
theorem Q1s {f fc fh:FuncId} (hf:Q5 P f (L1p.c fc fh) L1p.r L1p.n) (hc:Y0 P fc) (hh:Qty P fh):Kr P f:=by
 intro m;refine PI hm hf ?_;unfold L1p.c;simp[go_sem,Mesh.enc,Mesh.cs];refine Q2 (hc m) ?_;by_cases h:m.check=0
 ·have hl:=(Mesh.check_zero.1 h).2.1;simp[go_sem,h];refine Q2 (hh m.tris (by omega)) ?_;simp[go_sem,L1p.r,Mesh.coh,h]
 ·have h':(m.check == 0)=false:=by simpa using h
  simp[go_sem,h,h',L1p.r,Mesh.coh]
end
theorem Mesh.v_valid {m:Mesh} (h:K8 m.verts=true) {i:Int} (hi:i<m.verts.length):(m.v i).valid=true:=by
 unfold Mesh.v;cases hp:m.verts[i.toNat]? with
 | none=>rfl
 | some p=>exact Qil h hp
def V3.sub (a b:V3):V3:=⟨a.x-b.x,a.y-b.y,a.z-b.z⟩
def V3.crs (a b:V3):V3:=⟨a.y*b.z-a.z*b.y,a.z*b.x-a.x*b.z,a.x*b.y-a.y*b.x⟩
def K6 (a b c:V3):Bool:=a.valid && (b.valid && (c.valid && decide ((b.sub a).crs (c.sub a)=⟨0,0,0⟩)))
def Mesh.deg (m:Mesh) (t:T3):Bool:=K6 (m.v t.a) (m.v t.b) (m.v t.c)
def L19.c (L18:FuncId):C :=(Bs [Au 2 (.box (.t 0)),Au 4 (.alloc [(.i .i64 0),(.i .i64 0),(.i .i64 0)]),Au 5 (.alloc [(.i .i64 0),(.i .i64 0),(.i .i64 0)]),Au 6 (.alloc [(.i .i64 0),(.i .i64 0),(.i .i64 0)]),Ab 7 false] (.seq (Bs [Ag 9 2 2,Au 10 (.call L18 [.t 9]),Ak .neq 11 10 0,Am 12 11,Aw 13 12 (.mv (.t 1)),Aw 14 12 (.bin .lss (.t 13) (.c (.i .i64 0))),Ao 15 12 14,Am 16 15,Aw 17 16 (.mv (.t 1)),Aw 18 16 (.fa 1 (.t 2)),Aw 19 16 (.ld none (.t 18)),Aw 20 16 (.len 0 (.t 19)),Aw 21 16 (.bin .geq (.t 17) (.t 20)),Ao 22 16 21] (.ite (.t 22) (Bs [Au 23 (.build [(.i .i64 0),(.i .i64 0),(.i .i64 0)] []),
 Au 24 (.build [(.i .i64 0),(.i .i64 0),(.i .i64 0)] []),Au 25 (.build [(.i .i64 0),(.i .i64 0),(.i .i64 0)] []),As 3 4 23,As 3 5 24,As 3 6 25,Ab 7 false] .ret) .skip)) (Bs [Af 26 1 2,Al 27 26,Am 28 1,Ai 29 3 27 28,Ag 30 3 29,Au 8 (.alloc [(.i .i64 0),(.i .i64 0),(.i .i64 0)]),As 3 8 30] (.seq (.drw [Af 31 0 2,Al 32 31,Af 33 0 8,Al 34 33,Ai 35 3 32 34,Ag 36 3 35,Af 37 0 2,Al 38 37,Af 39 1 8,Al 40 39,Ai 41 3 38 40,Ag 42 3 41,Af 43 0 2,Al 44 43,Af 45 2 8,Al 46 45,Ai 47 3 44 46,Ag 48 3 47,As 3 4 36,As 3 5 42,As 3 6 48,Ab 7 true] [[],[],[],[],[],[],[],[],[],[],[],[],[],[],[],[],[],[],[6,7,8,9,10,11,12,13,14,15,16,17],[12,13,14,15,16,17],[],[]])
 .ret))))
def L19.r:List Rr:=[.cell 4 (some 3),.cell 5 (some 3),.cell 6 (some 3),.tmp 7]
abbrev L19.n:Nat:=49
def L4g.c (L0f L48:FuncId):C :=(Bs [Au 2 (.box (.t 0)),Ab 4 false] (Bs [Ag 10 2 2,Am 11 1,Au 12 (.call L0f [.t 10,.t 11]),Am 9 12,Ax1 13 0 9,Ax1 14 1 9,Ax1 15 2 9,Ax1 16 3 9,Au 5 (.alloc [(.i .i64 0),(.i .i64 0),(.i .i64 0)]),Au 6 (.alloc [(.i .i64 0),(.i .i64 0),(.i .i64 0)]),Au 7 (.alloc [(.i .i64 0),(.i .i64 0),(.i .i64 0)]),As 3 5 13,As 3 6 14,As 3 7 15,Am 8 16] (Bs [Am 17 8,Am 18 17,Av 19 18 (.ld (some 3) (.t 5)),Av 20 18 (.ld (some 3) (.t 6)),Av 21 18 (.ld (some 3) (.t 7)),Av 22 18 (.call L48 [.t 19,.t 20,.t 21]),Ap 23 18 22,Am 4 23] .ret)))
def L4g.r:List Rr:=[.tmp 4]
abbrev L4g.n:Nat:=24
def L1b.c (L19 L0x:FuncId):C :=(Bs [Au 2 (.box (.t 0)),Ab 4 false] (Bs [Ag 10 2 2,Am 11 1,Au 12 (.call L19 [.t 10,.t 11]),Am 9 12,Ax1 13 0 9,Ax1 14 1 9,Ax1 15 2 9,Ax1 16 3 9,Au 5 (.alloc [(.i .i64 0),(.i .i64 0),(.i .i64 0)]),Au 6 (.alloc [(.i .i64 0),(.i .i64 0),(.i .i64 0)]),Au 7 (.alloc [(.i .i64 0),(.i .i64 0),(.i .i64 0)]),As 3 5 13,As 3 6 14,As 3 7 15,Am 8 16] (Bs [Am 17 8,Am 18 17,Av 19 18 (.ld (some 3) (.t 5)),Av 20 18 (.ld (some 3) (.t 6)),Av 21 18 (.ld (some 3) (.t 7)),Av 22 18 (.call L0x [.t 19,.t 20,.t 21]),Ap 23 18 22,Am 4 23] .ret)))
def L1b.r:List Rr:=[.tmp 4]
abbrev L1b.n:Nat:=24
def L48.c (L4d L4c L49:FuncId):C :=(Bs [Au 3 (.box (.t 0)),Au 4 (.box (.t 1)),Au 5 (.box (.t 2)),Ab 6 false] (.seq (.drw [Ag 7 3 3,Au 8 (.call L4d [.t 7]),Am 9 8,Av 10 9 (.ld (some 3) (.t 4)),Av 11 9 (.call L4d [.t 10]),Ap 12 9 11,Am 13 12,Av 14 13 (.ld (some 3) (.t 5)),Av 15 13 (.call L4d [.t 14]),Ap 16 13 15,Am 17 16,Av 18 17 (.ld (some 3) (.t 4)),Av 19 17 (.ld (some 3) (.t 3)),Av 20 17 (.call L4c [.t 18,.t 19]),Av 21 17 (.ld (some 3) (.t 5)),Av 22 17 (.ld (some 3) (.t 3)),Av 23 17 (.call L4c [.t 21,.t 22]),Av 24 17 (.call L49 [.t 20,.t 23]),Av 25 17 (.build [(.i .i64 0),(.i .i64 0),(.i .i64 0)] []),
 Av 26 17 (.eqa [1,1,1] false (.t 24) (.t 25)),Ap 27 17 26,Am 6 27] [[],[],[],[],[],[],[],[],[],[],[],[],[],[],[13],[13],[],[],[],[],[],[]]) .ret))
def L48.r:List Rr:=[.tmp 6]
abbrev L48.n:Nat:=28
def L0x.c (L12 L11 L0y:FuncId):C :=(Bs [Au 3 (.box (.t 0)),Au 4 (.box (.t 1)),Au 5 (.box (.t 2)),Ab 6 false] (.seq (Bs [Ag 7 3 3,Au 8 (.call L12 [.t 7]),Au 9 (.un .not (.t 8)),Am 10 9,Aw 11 10 (.ld (some 3) (.t 4)),Aw 12 10 (.call L12 [.t 11]),Aw 13 10 (.un .not (.t 12)),Ao 14 10 13,Am 15 14,Aw 16 15 (.ld (some 3) (.t 5)),Aw 17 15 (.call L12 [.t 16]),Aw 18 15 (.un .not (.t 17)),Ao 19 15 18] (.ite (.t 19) (Bs [Ab 6 false] .ret) .skip)) (.seq (.drw [Ag 20 3 4,Ag 21 3 3,Au 22 (.call L11 [.t 20,.t 21]),Ag 23 3 5,Ag 24 3 3,Au 25 (.call L11 [.t 23,.t 24]),Au 26 (.call L0y [.t 22,.t 25]),Au 27 (.build [(.i .i64 0),(.i .i64 0),(.i .i64 0)] []),
 Au 28 (.eqa [1,1,1] false (.t 26) (.t 27)),Am 6 28] [[],[],[],[2],[2],[],[],[],[],[]]) .ret)))
def L0x.r:List Rr:=[.tmp 6]
abbrev L0x.n:Nat:=29
def L4c.c (L4d:FuncId):C :=(Bs [Au 2 (.box (.t 0)),Au 3 (.box (.t 1)),Au 4 (.alloc [(.i .i64 0),(.i .i64 0),(.i .i64 0)])] (.seq (Bs [Ag 5 3 2,Au 6 (.call L4d [.t 5]),Au 7 (.un .not (.t 6)),Am 8 7,Aw 9 8 (.ld (some 3) (.t 3)),Aw 10 8 (.call L4d [.t 9]),Aw 11 8 (.un .not (.t 10)),Ao 12 8 11] (.ite (.t 12) (Bs [Au 13 (.build [(.i .i64 0),(.i .i64 0),(.i .i64 0)] []),As 3 4 13] .ret) .skip)) (Bs [Af 14 0 2,Al 15 14,Af 16 0 3,Al 17 16,Aj .sub 18 15 17,Af 19 1 2,Al 20 19,Af 21 1 3,Al 22 21,Aj .sub 23 20 22,Af 24 2 2,Al 25 24,Af 26 2 3,Al 27 26,Aj .sub 28 25 27,Au 29 (.build [(.i .i64 0),(.i .i64 0),(.i .i64 0)] [(0,1,(.t 18)),(1,1,(.t 23)),(2,1,(.t 28))]),
 As 3 4 29] .ret)))
def L4c.r:List Rr:=[.cell 4 (some 3)]
abbrev L4c.n:Nat:=30
def L11.c (L12:FuncId):C :=(Bs [Au 2 (.box (.t 0)),Au 3 (.box (.t 1)),Au 4 (.alloc [(.i .i64 0),(.i .i64 0),(.i .i64 0)])] (.seq (Bs [Ag 5 3 2,Au 6 (.call L12 [.t 5]),Au 7 (.un .not (.t 6)),Am 8 7,Aw 9 8 (.ld (some 3) (.t 3)),Aw 10 8 (.call L12 [.t 9]),Aw 11 8 (.un .not (.t 10)),Ao 12 8 11] (.ite (.t 12) (Bs [Au 13 (.build [(.i .i64 0),(.i .i64 0),(.i .i64 0)] []),As 3 4 13] .ret) .skip)) (Bs [Af 14 0 2,Al 15 14,Af 16 0 3,Al 17 16,Aj .sub 18 15 17,Af 19 1 2,Al 20 19,Af 21 1 3,Al 22 21,Aj .sub 23 20 22,Af 24 2 2,Al 25 24,Af 26 2 3,Al 27 26,Aj .sub 28 25 27,Au 29 (.build [(.i .i64 0),(.i .i64 0),(.i .i64 0)] [(0,1,(.t 18)),(1,1,(.t 23)),(2,1,(.t 28))]),
 As 3 4 29] .ret)))
def L11.r:List Rr:=[.cell 4 (some 3)]
abbrev L11.n:Nat:=30
end Go.Abs
namespace Go.Abs
open Go.Sort
instance:Inhabited V3:=⟨⟨0,0,0⟩⟩
def Qf3 (P:Program) (f:FuncId):Prop:=∀a b:V3,a.valid=true->b.valid=true->CallIs P f [a.enc,b.enc] (a.sub b).enc
def Qi9 (P:Program) (f:FuncId):Prop:=∀a b:V3,a.within 131072=true->b.within 131072=true->CallIs P f [a.enc,b.enc] (a.crs b).enc
def Q84 (P:Program) (f:FuncId):Prop:=∀a:V3,CallIs P f [a.enc] (.b (a.within 131072))
def Qf7 (P:Program) (f:FuncId):Prop:=∀a b c:V3,CallIs P f [a.enc,b.enc,c.enc] (.b (K6 a b c))
section
variable {P:Program} (hm:P.follows .mixedOrders=true)
include hm
theorem Q8a {f fv:FuncId} (hf:Q5 P f (L4c.c fv) L4c.r L4c.n) (hv:Je P fv):Qf3 P f:=by
 intro a b h1 h2;have g1:=V3.valid_iff.1 h1;have g2:=V3.valid_iff.1 h2;refine PI hm hf ?_;unfold L4c.c;simp[go_sem,V3.enc,vcs];refine Q2 (hv a) ?_;simp[go_sem,h1];refine Q2 (hv b) ?_;simp (disch:=omega) [go_sem,h2,Q0,L4c.r,V3.sub]
theorem Qfw {f fv:FuncId} (hf:Q5 P f (L11.c fv) L11.r L11.n) (hv:Je P fv):Qf3 P f:=Q8a hm hf hv
theorem By {f fw:FuncId} (hf:Q5 P f (L4e.c fw) L4e.r L4e.n) (hw:Xx P fw):Q84 P f:=by
 intro a;refine PI hm hf ?_;unfold L4e.c;simp[go_sem,V3.enc,vcs];refine Q2 ((hw a 131072 (by omega) (by omega)).is rfl) ?_;simp[go_sem,L4e.r]
theorem Bz {f fv:FuncId} (hf:Q5 P f (L49.c fv) L49.r L49.n) (hv:Q84 P fv):Qi9 P f:=by
 intro a b h1 h2;have g1:(-131072<=a.x/\a.x<=131072/\-131072<=a.y/\a.y<=131072/\-131072<=a.z/\a.z<=131072):=by simpa[V3.within,and_assoc]using h1
 have g2:(-131072<=b.x/\b.x<=131072/\-131072<=b.y/\b.y<=131072/\-131072<=b.z/\b.z<=131072):=by simpa[V3.within,and_assoc]using h2
 have m1:=Qgn (x:=a.y) (y:=b.z) (A:=131072) (B:=131072) (by omega) (by omega) (by omega) (by omega);have m2:=Qgn (x:=a.z) (y:=b.y) (A:=131072) (B:=131072) (by omega) (by omega) (by omega) (by omega);have m3:=Qgn (x:=a.z) (y:=b.x) (A:=131072) (B:=131072) (by omega) (by omega) (by omega) (by omega)
 have m4:=Qgn (x:=a.x) (y:=b.z) (A:=131072) (B:=131072) (by omega) (by omega) (by omega) (by omega);have m5:=Qgn (x:=a.x) (y:=b.y) (A:=131072) (B:=131072) (by omega) (by omega) (by omega) (by omega);have m6:=Qgn (x:=a.y) (y:=b.x) (A:=131072) (B:=131072) (by omega) (by omega) (by omega) (by omega);refine PI hm hf ?_;unfold L49.c;simp[go_sem,V3.enc,vcs];refine Q2 (hv a) ?_
 simp[go_sem,h1];refine Q2 (hv b) ?_;simp (disch:=omega) [go_sem,h2,Q0,L49.r,V3.crs]
omit hm in
theorem Ug {a b:V3} (h1:a.valid=true) (h2:b.valid=true):(a.sub b).within 131072=true:=by
 have g1:=V3.valid_iff.1 h1;have g2:=V3.valid_iff.1 h2;simp only[V3.within,Bool.and_eq_true,decide_eq_true_eq];simp only[V3.sub];omega
omit hm in
theorem Qoj (v:V3):decide (v=⟨0,0,0⟩)=(v.x == 0 && (v.y == 0 && v.z == 0)):=by
 cases v;rw[Bool.eq_iff_iff];simp[V3.mk.injEq]
theorem Q32 {f fv fs fc:FuncId} (hf:Q5 P f (L48.c fv fs fc) L48.r L48.n) (hv:Je P fv) (hs:Qf3 P fs) (hc:Qi9 P fc):Qf7 P f:=by
 intro a b c;refine PI hm hf ?_;unfold L48.c;simp[go_sem,V3.enc,vcs];refine Qa (hv a) ?_;cases h1:a.valid
 ·simp[go_sem,L48.r,K6,h1]
 simp[go_sem];refine Qa (hv b) ?_;cases h2:b.valid
 ·simp[go_sem,L48.r,K6,h1,h2]
 simp[go_sem];refine Qa (hv c) ?_;cases h3:c.valid
 ·simp[go_sem,L48.r,K6,h1,h2,h3]
 simp[go_sem];refine Qa (hs b a h2 h1) ?_;simp[go_sem];refine Qa (hs c a h3 h1) ?_;simp[go_sem];refine Qa (hc _ _ (Ug h2 h1) (Ug h3 h1)) ?_;simp[go_sem,V3.enc,vcs,L48.r,K6,h1,h2,h3,Qoj]
end
end Go.Abs
namespace Go.Abs
open Go.Sort
def dd (l:List V3):List V3:=l.foldl (λacc v=>if v∈acc then acc else acc++[v]) []
def Mesh.degI (m:Mesh) (i:Int):Bool:=if 0<=i/\i<m.tris.length/\m.check=0 then match m.tris[i.toNat]? with
    | some t=>m.deg t
    | none=>false
 else false
def Qtx (P:Program) (f:FuncId):Prop:=∀(m:Mesh) (i:Int),CallIs P f [m.enc,.i .i64 i] (.b (m.degI i))
section
variable {P:Program} (hm:P.follows .mixedOrders=true)
include hm
theorem Q0f {f fv fs fc:FuncId} (hf:Q5 P f (L0x.c fv fs fc) L0x.r L0x.n) (hv:Je P fv) (hs:Qf3 P fs) (hc:Qi9 P fc):Qf7 P f:=by
 intro a b c;refine PI hm hf ?_;unfold L0x.c;simp[go_sem,V3.enc,vcs];refine Q2 (hv a) ?_;cases h1:a.valid
 ·simp[go_sem,L0x.r,K6,h1]
 simp[go_sem];refine Q2 (hv b) ?_;cases h2:b.valid
 ·simp[go_sem,L0x.r,K6,h1,h2]
 simp[go_sem];refine Q2 (hv c) ?_;cases h3:c.valid
 ·simp[go_sem,L0x.r,K6,h1,h2,h3]
 simp[go_sem];refine Qa (hs b a h2 h1) ?_;simp[go_sem];refine Qa (hs c a h3 h1) ?_;simp[go_sem];refine Qa (hc _ _ (Ug h2 h1) (Ug h3 h1)) ?_;simp[go_sem,V3.enc,vcs,L0x.r,K6,h1,h2,h3,Qoj]
theorem Q3p {f fc:FuncId} (hf:Q5 P f (L19.c fc) L19.r L19.n) (hc:Y0 P fc):Wd P f:=by
 intro m i;refine PI hm hf ?_;unfold L19.c;simp[go_sem,Mesh.enc,Mesh.cs,vsV,tsV];refine Q2 (hc m) ?_;by_cases hz:m.check=0
 case neg =>
  have hb:(m.check != 0)=true:=by simp[hz]
  simp[go_sem,hb,hz,L19.r,Mesh.corners,zV3]
 by_cases h:0<=i/\i<m.tris.length
 ·obtain⟨h0,h1⟩:=h;have hlt:i.toNat<m.tris.length:=by omega
  obtain⟨z1,z2,z3,z4⟩:=Mesh.check_zero.1 hz;obtain⟨t,hp⟩:∃t,m.tris[i.toNat]?=some t:=⟨_,q9 hlt⟩
  obtain⟨hlt',hp'⟩:=q8.1 hp;obtain⟨t1,t2,t3,t4,t5,t6⟩:=T3.ok_iff.1 (Ei z4 hp);have ga:=Mesh.v_get t2 (by omega);have gb:=Mesh.v_get t4 (by omega);have gc:=Mesh.v_get t6 (by omega);have hr:m.corners i=.t [(m.v t.a).enc,(m.v t.b).enc,(m.v t.c).enc,.b true]:=by
   simp only[Mesh.corners,h0,h1,hz,and_self,if_true,hp]
  rw[hr];simp[go_sem,show ¬ i<0 by omega,show ¬ (m.tris.length:Int)<=i by omega,hz,h0,h1,hlt,hp',tcs,vcs,t1,t2,t3,t4,t5,t6,show t.a.toNat<m.verts.length by omega,show t.b.toNat<m.verts.length by omega,show t.c.toNat<m.verts.length by omega,ga,gb,gc,L19.r,V3.enc]
 ·have:i<0∨(m.tris.length:Int)<=i:=by omega
  have hr:m.corners i=.t [zV3,zV3,zV3,.b false]:=by
   unfold Mesh.corners;rw[if_neg (by omega)]
  rw[hr];by_cases h0:i<0
  ·simp[go_sem,hz,h0,L19.r,zV3]
  ·simp[go_sem,hz,h0,show (m.tris.length:Int)<=i by omega,L19.r,zV3]
theorem Ku {f fc fv:FuncId} (hf:Q5 P f (L4g.c fc fv) L4g.r L4g.n) (hc:Wd P fc) (hv:Qf7 P fv):Qtx P f:=by
 intro m i;refine PI hm hf ?_;unfold L4g.c;simp[go_sem,Mesh.enc,Mesh.cs];refine Q2 (hc m i) ?_;by_cases h:0<=i/\i<m.tris.length/\m.check=0
 ·obtain⟨t,ht⟩:∃t,m.tris[i.toNat]?=some t:=⟨_,q9 (show i.toNat<m.tris.length by omega)⟩
  have e1:m.corners i=.t [(m.v t.a).enc,(m.v t.b).enc,(m.v t.c).enc,.b true]:=by unfold Mesh.corners;rw[if_pos h,ht]
  have e2:m.degI i=m.deg t:=by unfold Mesh.degI;rw[if_pos h,ht]
  rw[e1,e2];simp[go_sem,V3.enc,vcs];refine Q2 (hv (m.v t.a) (m.v t.b) (m.v t.c)) ?_;simp[go_sem,L4g.r,Mesh.deg]
 ·have e1:m.corners i=.t [zV3,zV3,zV3,.b false]:=by unfold Mesh.corners;rw[if_neg h]
  have e2:m.degI i=false:=by unfold Mesh.degI;rw[if_neg h]
  rw[e1,e2];simp[go_sem,zV3,L4g.r]
theorem Bj {f fc fv:FuncId} (hf:Q5 P f (L1b.c fc fv) L1b.r L1b.n) (hc:Wd P fc) (hv:Qf7 P fv):Qtx P f:=Ku hm hf hc hv
end
def V3.inR (v:V3):Bool:=inI v.x && inI v.y && inI v.z
def Ql:List T3:=[⟨0,2,3⟩,⟨0,3,1⟩,⟨4,5,7⟩,⟨4,7,6⟩,⟨0,1,5⟩,⟨0,5,4⟩,⟨2,6,7⟩,⟨2,7,3⟩,⟨0,4,6⟩,⟨0,6,2⟩,⟨1,3,7⟩,⟨1,7,5⟩]
def Qkt (p s:V3):V :=
 if s.x<1∨s.y<1∨s.z<1 then Qah Qag 1
 else if p.valid=true/\(p.add s).valid=true then Qah ⟨Qg p s,Ql⟩ 0
 else Qah Qag 8
def BoxC (P:Program) (f:FuncId):Prop:=∀p s:V3,p.inR=true->s.inR=true->CallIs P f [p.enc,s.enc] (Qkt p s)
theorem Qim (p:V3):K8 [p]=p.valid:=by simp[K8]
theorem Qbs {p s:V3} (h1:p.valid=true) (h2:(p.add s).valid=true):s.within 131072=true:=by
 have a1:=V3.valid_iff.1 h1;have a2:=V3.valid_iff.1 h2;simp only[V3.add]at a2;rw[within_iff];omega
section
variable {P:Program} (hm:P.follows .mixedOrders=true)
include hm
theorem Qbz {f ff fn fp fc fl:FuncId} (hf:Q5 P f (L3k.c ff fn fp fc fl) L3k.r L3k.n)
  (hfit:Qoa P ff) (hnear:Z0q P fn) (hplus:Qpx P fp) (hcor:Q53 P fc) (hcl:Qoe P fl 3):BoxC P f:=by
 intro p s hp hs;by_cases h1:s.x<1∨s.y<1∨s.z<1
 ·have hb:Qkt p s=Qah Qag 1:=by simp[Qkt,h1]
  rw[hb];refine CallIs.res (r:=.t [.a [.nil,.nil],.i .i64 1]) ?_ (Qe6 1);refine PI hm hf ?_;unfold L3k.c;have h2:min s.x (min s.y s.z)<1:=by omega
  simp[go_sem,V3.enc,V3.cs,Wm,h2,L3k.r]
 have h2:¬ min s.x (min s.y s.z)<1:=by omega
 by_cases hok:p.valid=true/\(p.add s).valid=true
 ·have hb:Qkt p s=Qah ⟨Qg p s,Ql⟩ 0:=by simp[Qkt,h1,hok]
  have hw:=Qbs hok.1 hok.2;rw[hb];refine PI hm hf ?_;unfold L3k.c;simp[go_sem,V3.enc,V3.cs,Wm,h2];refine Q2 (hfit [p] (by simp)) ?_;simp[go_sem,Qim,hok.1];refine Q2 (hnear s) ?_;simp[go_sem,hw];refine Q2 (hplus p s) ?_;rw[Qjg hok.1 hw];simp[go_sem,V3.enc,V3.cs];refine Q2 (hfit [p.add s] (by simp)) ?_;simp[go_sem,Qim,hok.2];refine Q2 (hcor p s hok.1 hw) ?_;simp[go_sem,V3.cs,Qg]
  refine Q56 (hcl _ (by simp[V.isD]) (by simp)) rfl ?_;simp[go_sem,L3k.r,V3.cs,Qah,Mesh.enc,Mesh.cs,vsV,tsV,Ql,T3.cs]
 ·have hb:Qkt p s=Qah Qag 8:=by simp[Qkt,h1,hok]
  rw[hb];refine CallIs.res (r:=.t [.a [.nil,.nil],.i .i64 8]) ?_ (Qe6 8);refine PI hm hf ?_;unfold L3k.c;simp[go_sem,V3.enc,V3.cs,Wm,h2];refine Q2 (hfit [p] (by simp)) ?_;cases hpv:p.valid
  ·simp[go_sem,Qim,hpv,L3k.r]
  simp[go_sem,Qim,hpv];refine Q2 (hnear s) ?_;cases hw:s.within 131072
  ·simp[go_sem,L3k.r]
  simp[go_sem];refine Q2 (hplus p s) ?_;rw[Qjg hpv hw];simp[go_sem,V3.enc,V3.cs];refine Q2 (hfit [p.add s] (by simp)) ?_;have hav:(p.add s).valid=false:=by rw[Bool.eq_false_iff];exact λh=>hok ⟨hpv,h⟩
  simp[go_sem,Qim,hav,L3k.r]
end
def mixed {α:Type} (l:List α) (g:α->α) (k:Nat):List α:=(l.take k).map g++l.drop k
noncomputable def Mesh.inv (m:Mesh):Bool:=m.shells.any λsh=>decide (Xb m.verts (Z4 m.tris sh)<0)
noncomputable def U9 (m:Mesh):Int :=
 if m.check≠0 then m.check else if m.closed=false then 12 else if I8 m.tris=false then 13 else if m.tris.any m.deg=true then 1 else if m.inv=true then 1 else 0
structure Snd (m:Mesh):Prop where
 z:m.check=0
 clo:m.closed=true
 coh:Coh m.tris
 deg:∀t∈m.tris,m.deg t=false
 vol:∀sh∈m.shells,0<=Xb m.verts (Z4 m.tris sh)
theorem snd_iff {m:Mesh}:U9 m=0↔Snd m:=by
 unfold U9;constructor
 ·intro h;by_cases h1:m.check=0
  case neg=>rw[if_pos h1]at h;exact absurd h h1
  rw[if_neg (by simpa using h1)]at h
  by_cases h2:m.closed=false
  case pos=>rw[if_pos h2]at h;simp at h
  rw[if_neg h2]at h
  by_cases h3:I8 m.tris=false
  case pos=>rw[if_pos h3]at h;simp at h
  rw[if_neg h3]at h
  by_cases h4:m.tris.any m.deg=true
  case pos=>rw[if_pos h4]at h;simp at h
  rw[if_neg h4]at h
  by_cases h5:m.inv=true
  case pos=>rw[if_pos h5]at h;simp at h
  refine⟨h1,by simpa using h2,cohB_iff.1 (by simpa using h3),?_,?_⟩
  ·intro t ht;cases hd:m.deg t with
   | false=>rfl
   | true=>exact absurd (List.any_eq_true.2 ⟨t,ht,hd⟩) h4
  ·intro sh hs;by_cases hn:Xb m.verts (Z4 m.tris sh)<0
   ·exact absurd (List.any_eq_true.2 ⟨sh,hs,by simpa using hn⟩) h5
   ·omega
 ·intro h;have h4:m.tris.any m.deg=false:=by
   rw[List.any_eq_false];intro t ht;rw[h.deg t ht];simp
  have h5:m.inv=false:=by
   unfold Mesh.inv;rw[List.any_eq_false];intro sh hs;have:=h.vol sh hs;simp;omega
  rw[if_neg (by simpa using h.z),if_neg (by rw[h.clo];simp),if_neg (by rw[cohB_iff.2 h.coh];simp),if_neg (by rw[h4];simp),if_neg (by rw[h5];simp)]
def Qd9 (top h:Int):Nat:=((top-h / 2+h-1) / h).toNat
theorem Q7y {top h:Int} (hh:0<h) {i:Nat}:i<Qd9 top h↔(i:Int)*h+h / 2<top:=by
 unfold Qd9;have h1:(i:Int)<(top-h / 2+h-1) / h↔(i:Int)*h<top-h / 2:=by
  rw[show ((i:Int)<(top-h / 2+h-1) / h)↔((i:Int)+1<=(top-h / 2+h-1) / h) from Iff.rfl,Int.le_ediv_iff_mul_le hh];have:((i:Int)+1)*h=i*h+h:=by grind
  rw[this];omega
 rw[show ((i:Int)*h+h / 2<top)↔((i:Int)*h<top-h / 2) by omega,<- h1];omega
def Kc (h:Int) (n:Nat):List Int:=(List.range n).map λ(i:Nat)=>(i:Int)*h+h / 2
theorem Q4i (h:Int) (n:Nat):Kc h (n+1)=Kc h n++[(n:Int)*h+h / 2]:=by simp[Kc,List.range_succ]
theorem U6 (h:Int) (n:Nat):(Kc h n).length=n:=by simp[Kc]
def I1 (top h:Int):List Int × Int:=if Z1 h 4 1024=false then ([],1) else if 256<Qd9 top h then ([],2) else (Kc h (Qd9 top h),0)
theorem Qav (top h:Int):(I1 top h).1.length<=256:=by
 unfold I1;split
 ·simp
 ·split
  ·simp
  ·rename_i h1;simp only[U6];omega
def Q7l (u:V3) (l:List V3):V3:=l.foldl (λa w=>⟨min a.x w.x,min a.y w.y,min a.z w.z⟩) u
def Q17 (u:V3) (l:List V3):V3:=l.foldl (λa w=>⟨max a.x w.x,max a.y w.y,max a.z w.z⟩) u
def bLo:List V3->V3
 | []=>⟨0,0,0⟩
 | v::l=>Q7l v (v::l)
def bHi:List V3->V3
 | []=>⟨0,0,0⟩
 | v::l=>Q17 v (v::l)
theorem Qex (u:V3) (l:List V3) (w:V3):Q7l u (l++[w])=⟨min (Q7l u l).x w.x,min (Q7l u l).y w.y,min (Q7l u l).z w.z⟩:=by simp[Q7l]
theorem Qey (u:V3) (l:List V3) (w:V3):Q17 u (l++[w])=⟨max (Q17 u l).x w.x,max (Q17 u l).y w.y,max (Q17 u l).z w.z⟩:=by simp[Q17]
def mxF (f:V3->Int) (a:Int) (l:List V3):Int:=l.foldl (λa w=>max a (f w)) a
theorem Qw6 (f:V3->Int):∀(l:List V3) (a:Int),a<=mxF f a l/\(∀w∈l,f w<=mxF f a l)/\(mxF f a l=a∨∃w∈l,mxF f a l=f w)
 | [],a=>⟨Int.le_refl _,by simp,.inl rfl⟩
 | v::l,a=>by
   have e:mxF f a (v::l)=mxF f (max a (f v)) l:=rfl;obtain⟨h1,h2,h3⟩:=Qw6 f l (max a (f v));rw[e];refine⟨by clear h3;omega,λw hw=>?_,?_⟩
   ·rcases List.mem_cons.1 hw with rfl | hw
    ·clear h3;omega
    ·exact h2 w hw
   ·rcases h3 with h3 | ⟨w,hw,h3⟩
    ·rw[h3];by_cases c:f v<=a
     ·exact .inl (by omega)
     ·exact .inr ⟨v,by simp,by omega⟩
    ·exact .inr ⟨w,by simp[hw],h3⟩
theorem Qzm:∀(l:List V3) (u:V3),(Q17 u l).x=mxF V3.x u.x l/\(Q17 u l).y=mxF V3.y u.y l/\(Q17 u l).z=mxF V3.z u.z l
 | [],u=>⟨rfl,rfl,rfl⟩
 | v::l,u=>Qzm l ⟨max u.x v.x,max u.y v.y,max u.z v.z⟩
noncomputable def K1 (m:Mesh) (k:Int):List Int->List (List Rw) × Int
 | []=>([],0)
 | z::zs=>if (Z3 m z k).2≠0 then ([],(Z3 m z k).2) else if (K1 m k zs).2≠0 then ([],(K1 m k zs).2) else ((Z3 m z k).1::(K1 m k zs).1,0)
noncomputable def Xs (m:Mesh) (k h:Int):List (List Rw) × Int :=
 if U9 m≠0 then ([],U9 m) else if m.verts=[] then ([],0) else if (bLo m.verts).z<0 then ([],8) else if (I1 (bHi m.verts).z h).2≠0 then ([],(I1 (bHi m.verts).z h).2) else K1 m k (I1 (bHi m.verts).z h).1
def atR (l:List (List Rw)) (i:Nat):List Rw:=(l[i]?).getD []
noncomputable def Bf (all l:List (List Rw)):List (List Rw):=(List.range (max all.length l.length)).map λi=>Jj (atR all i) (atR l i)
noncomputable def Bx (k h:Int):List (List Rw)->List Mesh->List (List Rw) × Int
 | acc,[]=>(acc,0)
 | acc,m::ms=>if (Xs m k h).2≠0 then ([],(Xs m k h).2) else Bx k h (Bf acc (Xs m k h).1) ms
noncomputable def Xq (ms:List Mesh) (k h:Int):List (List Rw) × Int:=if Z1 k 32 1024=false∨Z1 h 4 1024=false then ([],1) else Bx k h [] ms
def Jy (l:List (List Rw)):Prop:=∀g∈l,RgV g/\RgB g
theorem Qv3 (m:Mesh) (k:Int):∀zs,Jy (K1 m k zs).1/\(K1 m k zs).1.length<=zs.length
 | []=>by simp[K1,Jy]
 | z::zs=>by
   have ih:=Qv3 m k zs;unfold K1;split
   ·simp[Jy]
   ·split
    ·simp[Jy]
    ·refine⟨λg hg=>?_,by simp;exact ih.2⟩;rcases List.mem_cons.1 hg with rfl | hg
     ·exact Qv4 m z k
     ·exact ih.1 g hg
theorem Qg0 (m:Mesh) (k h:Int):Jy (Xs m k h).1/\(Xs m k h).1.length<=256:=by
 unfold Xs;split
 ·simp[Jy]
 ·split
  ·simp[Jy]
  ·split
   ·simp[Jy]
   ·split
    ·simp[Jy]
    ·have h1:=Qv3 m k (I1 (bHi m.verts).z h).1;have h2:=Qav (bHi m.verts).z h;exact⟨h1.1,by omega⟩
theorem Qkx {l:List (List Rw)} (h:Jy l) (i:Nat):RgV (atR l i)/\RgB (atR l i):=by
 unfold atR;cases hq:l[i]? with
 | none=>exact⟨RgV.nil,RgB.nil⟩
 | some g=>exact h g (qb hq)
theorem Qlj (a l:List (List Rw)):Jy (Bf a l):=λg hg=>by
 unfold Bf at hg;obtain⟨i,_,rfl⟩:=qo.1 hg;exact⟨Eh _ _,Qli _ _⟩
theorem Kw (a l:List (List Rw)):(Bf a l).length=max a.length l.length:=by simp[Bf]
theorem Q8e {a l:List (List Rw)} {i:Nat} (h:i<max a.length l.length):(Bf a l)[i]?=some (Jj (atR a i) (atR l i)):=by
 unfold Bf;rw[qp,jo h];rfl
theorem Qzr (k h:Int):∀(ms:List Mesh) (acc:List (List Rw)),Jy acc->acc.length<=256->Jy (Bx k h acc ms).1/\(Bx k h acc ms).1.length<=256
 | [],acc,h1,h2=>⟨h1,h2⟩
 | m::ms,acc,h1,h2=>by
   unfold Bx;split
   ·simp[Jy]
   ·exact Qzr k h ms _ (Qlj _ _) (by rw[Kw];have:=(Qg0 m k h).2;omega)
theorem Qqx (ms:List Mesh) (k h:Int):Jy (Xq ms k h).1/\(Xq ms k h).1.length<=256:=by
 unfold Xq;split
 ·simp[Jy]
 ·exact Qzr k h ms [] (by simp[Jy]) (by simp)
theorem Qq2 {g:List Rw} (hg:RgV g) (hb:RgB g):Jj g []=g :=
 (Eh g []).ext hg λy x=>by
  rw[Q7w hb RgB.nil];constructor
  ·rintro (h | ⟨w,hw,_⟩)
   ·exact h
   ·simp at hw
  ·exact .inl
theorem Qud {l:List (List Rw)} (h:Jy l):Bf [] l=l:=by
 refine qy λi=>?_
 by_cases hi:i<l.length
 ·rw[Q8e (by simp;exact hi)];have hq:l[i]?=some l[i]:=q9 hi;obtain⟨h1,h2⟩:=h _ (qb hq);have e1:atR [] i=[]:=rfl;have e2:atR l i=l[i]:=by unfold atR;rw[hq];rfl
  rw[e1,e2,Qiq h1 h2,hq]
 ·rw[qk (by rw[Kw];simp;omega),qk (by omega)]
theorem Qbh {k h:Int}:∀{ms:List Mesh} {acc:List (List Rw)},(Bx k h acc ms).2≠0->(Bx k h acc ms).1=[]
 | [],acc,hh=>absurd rfl hh
 | m::ms,acc,hh=>by
   unfold Bx at hh ⊢;split
   ·rfl
   ·rename_i h1;rw[if_neg h1]at hh
    exact Qbh hh
theorem Wv {m:Mesh} {k:Int}:∀{zs:List Int},(∀z∈zs,(Z3 m z k).2=0)->K1 m k zs=(zs.map λz=>(Z3 m z k).1,0)
 | [],_=>rfl
 | z::zs,h=>by
   unfold K1;rw[if_neg (by simp[h z (by simp)]),Wv λy hy=>h y (by simp[hy])];simp
theorem Q8m {m:Mesh} {k:Int}:∀{zs:List Int} {i:Nat} {z:Int},zs[i]?=some z->(∀x∈zs.take i,(Z3 m x k).2=0)->(Z3 m z k).2≠0->K1 m k zs=([],(Z3 m z k).2)
 | [],i,z,h,_,_=>by simp at h
 | y::zs,0,z,h,_,he=>by
   simp at h;subst h;unfold K1;rw[if_pos he]
 | y::zs,i+1,z,h,hp,he=>by
   have ih:=Q8m (m:=m) (k:=k) (zs:=zs) (i:=i) (by simpa using h) (λx hx=>hp x (by simp[hx])) he;unfold K1;rw[if_neg (by simp[hp y (by simp)]),ih,if_pos he]
end Go.Abs
