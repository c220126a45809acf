/- A mesh in a mesh of more triangles; a mesh and its copy, interleaved: plain laws. -/
import Derived.Test.YtcdjgldeiaiaoaaGreatGoRpD
set_option linter.unusedVariables false
set_option linter.unusedSimpArgs false
namespace Go.Abs
theorem Wp {n:Int} {t:T3} {e:P2}:e∈Q5 (t.sh n)↔(⟨e.x-n,e.y-n⟩:P2)∈Q5 t:=by
 rw[mem_edges,mem_edges]
 cases e;cases t
 simp only[T3.sh,P2.mk.injEq,ne_eq]
 omega
theorem Qeo (t:T3):t.sh 0=t:=by cases t;simp[T3.sh]
theorem Qj1 {n:Int} {a b:P2} (h:a.und=b.und):(⟨a.x-n,a.y-n⟩:P2).und=(⟨b.x-n,b.y-n⟩:P2).und:=by
 rcases Q2b h with rfl | rfl
 ·rfl
 ·exact B1 ⟨b.x-n,b.y-n⟩
structure Emb (ts ts':List T3) (f:Nat->Nat) (k:Int):Prop where
 mono:∀i j,i<j->f i<f j
 lt:∀i,i<ts.length->f i<ts'.length
 at_:∀i,i<ts.length->tAt ts' (f i)=(tAt ts i).sh k
 out:∀i j,i<ts.length->adjI ts' (f i) j->∃i',i'<ts.length/\j=f i'
section
variable {ts ts':List T3} {f:Nat->Nat} {k:Int}
theorem Emb.inj (h:Emb ts ts' f k) {i j:Nat} (he:f i=f j):i=j:=by
 rcases Nat.lt_trichotomy i j with hh | hh | hh
 ·have:=h.mono i j hh;omega
 ·exact hh
 ·have:=h.mono j i hh;omega
theorem Emb.le (h:Emb ts ts' f k) {i j:Nat} (he:i<=j):f i<=f j:=by
 rcases Nat.lt_or_ge i j with hh | hh
 ·have:=h.mono i j hh;omega
 ·have:i=j:=by omega
  subst this;exact Nat.le_refl _
theorem Emb.adj (h:Emb ts ts' f k) {i j:Nat} (hi:i<ts.length) (hj:j<ts.length):adjI ts' (f i) (f j)↔adjI ts i j:=by
 constructor
 ·intro ha
  obtain⟨_,_,a,ha,b,hb,hab⟩:=Uc ha
  rw[h.at_ i hi,Wp]at ha
  rw[h.at_ j hj,Wp]at hb
  exact K1 hi hj ha hb (Qj1 hab)
 ·intro ha
  obtain⟨_,_,a,ha,b,hb,hab⟩:=Uc ha
  refine K1 (h.lt i hi) (h.lt j hj) (a:=⟨a.x+k,a.y+k⟩) (b:=⟨b.x+k,b.y+k⟩) ?_ ?_ ?_
  ·rw[h.at_ i hi,Wp];simpa using ha
  ·rw[h.at_ j hj,Wp];simpa using hb
  ·have:=Qj1 (n:=-k) hab
   simpa using this
theorem Emb.conn (h:Emb ts ts' f k) {i j:Nat} (hc:Conn ts i j):Conn ts' (f i) (f j):=by
 induction hc with
 | refl h1=>exact .refl (h.lt _ h1)
 | tail h1 h2 ih=>exact .tail ih ((h.adj h2.lt.1 h2.lt.2).2 h2)
theorem Emb.conn' (h:Emb ts ts' f k) {i j:Nat} (hi:i<ts.length) (hc:Conn ts' (f i) j):∃i',j=f i'/\Conn ts i i':=by
 generalize hx:f i=x at hc
 induction hc with
 | refl h1=>exact⟨i,hx.symm,.refl hi⟩
 | tail h1 h2 ih =>
   obtain⟨i',rfl,hc'⟩:=ih
   obtain⟨i2,h3,rfl⟩:=h.out _ _ hc'.lt.2 h2
   exact⟨i2,rfl,.tail hc' ((h.adj hc'.lt.2 h3).1 h2)⟩
variable {L L':List Int}
theorem Emb.lab (h:Emb ts ts' f k) (hL:IsLab ts L) (hL':IsLab ts' L') {i l:Nat} (hl:L[i]?=some (l:Int)):L'[f i]?=some (f l:Int):=by
 have hi:i<ts.length:=by rw[<- hL.len];exact(q8.1 hl).1
 have hfi:=h.lt i hi
 have hv:L'[f i]?=some (L'[f i]'(by rw[hL'.len];exact hfi)):=q9 _
 generalize L'[f i]'(by rw[hL'.len];exact hfi)=v at hv
 obtain⟨v0,v1,hc⟩:=hL'.con _ _ hv
 obtain⟨j,hj,hcj⟩:=h.conn' hi hc
 obtain⟨l0,l1,hcl⟩:=hL.con _ _ hl
 have h1:=hL.conn hcj
 rw[hl]at h1
 have h2:=(hL.con j _ h1.symm).2.1
 have h3:=h.le (i:=l) (j:=j) (by omega)
 have h4:=hL'.conn (h.conn hcl)
 rw[hv]at h4
 have h5:=(hL'.con _ _ h4.symm).2.1
 rw[hv];congr 1
 simp only[Int.toNat_natCast]at h5
 omega
theorem lab_nat (hL:IsLab ts L) {i:Nat} (hi:i<ts.length):∃l:Nat,L[i]?=some (l:Int)/\l<ts.length:=by
 have hv:L[i]?=some (L[i]'(by rw[hL.len];exact hi)):=q9 _
 obtain⟨v0,v1,hc⟩:=hL.con _ _ hv
 exact⟨(L[i]'(by rw[hL.len];exact hi)).toNat,by rw[hv];congr 1;omega,hc.lt.2⟩
theorem Emb.labR (h:Emb ts ts' f k) (hL:IsLab ts L) (hL':IsLab ts' L') {i l:Nat} (hi:i<ts.length):L'[f i]?=some (f l:Int)↔L[i]?=some (l:Int):=by
 constructor
 ·intro hh
  obtain⟨l',h1,h2⟩:=lab_nat hL hi
  rw[h.lab hL hL' h1]at hh
  have:=Option.some.inj hh
  rw[h1,h.inj (i:=l') (j:=l) (by omega)]
 ·exact h.lab hL hL'
theorem Q7e {L:List Int} {q n:Nat} {v:Int} (h:v∈shK L q n):0<=v/\v.toNat<n/\(v.toNat:Int)=v/\L[v.toNat]?=some (q:Int):=by
 obtain⟨j,rfl,h1,h2⟩:=mem_shK2.1 h
 exact⟨by omega,by simpa using h1,by simp,by simpa using h2⟩
theorem Kh {α β:Type} {l:List α} {g:α->β} (h:l.Nodup) (hi:∀a∈l,∀b∈l,g a=g b->a=b):(l.map g).Nodup:=by
 rw[List.Nodup,je]
 exact h.imp_of_mem λha hb hne he=>hne (hi _ ha _ hb he)
theorem Emb.sh (h:Emb ts ts' f k) (hL:IsLab ts L) (hL':IsLab ts' L') {q:Nat} (hq:L[q]?=some (q:Int)) :
  (shK L' (f q) L'.length).Perm ((shK L q L.length).map λv=>(f v.toNat:Int)):=by
 refine (List.perm_ext_iff_of_nodup (Kw _ _ _) (Kh (Kw _ _ _) λa ha b hb he=>?_)).2 λv=>?_
 ·have h1:=Q7e ha
  have h2:=Q7e hb
  have:=h.inj (i:=a.toNat) (j:=b.toNat) (by omega)
  omega
 ·have hql:q<ts.length:=by rw[<- hL.len];exact(q8.1 hq).1
  rw[mem_shK2,qp]
  constructor
  ·rintro⟨j,rfl,h1,h2⟩
   have hc:=(hL'.con _ _ h2).2.2
   simp only[Int.toNat_natCast]at hc
   obtain⟨i,rfl,hci⟩:=h.conn' hql hc.symm
   refine⟨(i:Int),mem_shK2.2 ⟨i,rfl,by rw[hL.len];exact hci.lt.2,?_⟩,by simp⟩
   exact(h.labR hL hL' hci.lt.2).1 h2
  ·rintro⟨u,hu,rfl⟩
   obtain⟨j,rfl,h1,h2⟩:=mem_shK2.1 hu
   refine⟨f j,by simp,?_,by simpa using h.lab hL hL' h2⟩
   rw[hL'.len];exact h.lt _ (by rw[<- hL.len];exact h1)
theorem Emb.part (h:Emb ts ts' f k) (hL:IsLab ts L) (hL':IsLab ts' L') {q:Nat} (hq:L[q]?=some (q:Int)) :
  (Qj ts' (shK L' (f q) L'.length)).Perm ((Qj ts (shK L q L.length)).map (T3.sh k)):=by
 have hp:=(h.sh hL hL' hq).map λv:Int=>tAt ts' v.toNat
 refine hp.trans ?_
 unfold Qj
 rw[List.map_map,List.map_map]
 refine List.Perm.of_eq (jl λv hv=>?_)
 have h1:=Q7e hv
 simp only[Function.comp,Int.toNat_natCast]
 exact h.at_ _ (by rw[<- hL.len];exact h1.2.1)
end
theorem Qft {l l':List Int} (h:l.Perm l'):l.sum=l'.sum:=by
 induction h with
 | nil=>rfl
 | cons x _ ih=>simp[ih]
 | swap x y l=>simp;omega
 | trans _ _ h1 h2=>rw[h1,h2]
theorem Q2o (vs:List V3) {ts ts':List T3} (h:ts.Perm ts'):Za vs ts=Za vs ts':=Qft (h.map _)
theorem Q74 {vs vs':List V3} {k:Int} {d:V3} (hv:∀i:Int,0<=i->i<vs.length->vAt vs' (i+k)=(vAt vs i).add d) {ts:List T3} (ht:Jl vs.length ts=true) :
  Za vs' (ts.map (T3.sh k))=Za (vs.map (·.add d)) ts:=by
 unfold Za
 rw[List.map_map]
 congr 1
 refine jl λt h=>?_
 obtain⟨a0,a1,b0,b1,c0,c1⟩:=T3.ok_iff.1 (qj.1 ht t h)
 simp only[Function.comp,Q05,T3.sh,hv _ a0 a1,hv _ b0 b1,hv _ c0 c1,Ug (g:=(·.add d)) a0 a1,Ug (g:=(·.add d)) b0 b1,Ug (g:=(·.add d)) c0 c1]
theorem Emb.vol {m:Mesh} (hz:m.check=0) (hc:Coh m.tris) (hclo:Clo m.tris) {ts':List T3} {f:Nat->Nat} {k:Int} (h:Emb m.tris ts' f k) {vs':List V3} {d:V3}
  (hd:Yb (m.verts.map (·.add d))=true) (hv:∀i:Int,0<=i->i<m.verts.length->vAt vs' (i+k)=(vAt m.verts i).add d) {L L':List Int} (hL:IsLab m.tris L) (hL':IsLab ts' L')
  {q:Nat} (hq:L[q]?=some (q:Int)):Za vs' (Qj ts' (shK L' (f q) L'.length))=Za m.verts (Qj m.tris (shK L q L.length)):=by
 have hR:m.shells=Y1 L m.tris.length:=by unfold Mesh.shells;rw[if_pos hz,Zj hL,hL.len]
 have hql:q<m.tris.length:=by rw[<- hL.len];exact(q8.1 hq).1
 have hs:shK L q L.length∈m.shells:=by rw[hR];exact shsK_mem.2 ⟨q,hql,hq,rfl⟩
 have hcl:=Q7d hz hc hclo hs
 have hz2:=(W7 hcl).1
 have hk:=Q9h hcl (d:=d) hd
 rw[J9 hz2,J9 (Kz hz2 hd)]at hk
 rw[Q2o vs' (h.part hL hL' hq),Q74 hv (Mesh.check_zero.1 hz2).2.2.2]
 exact hk
structure Pair (m m':Mesh) (d:V3) (f g:Nat->Nat):Prop where
 z:m.check=0
 z':m'.check=0
 vs:m'.verts=m.verts++m.verts.map (·.add d)
 mv:Yb (m.verts.map (·.add d))=true
 len:m'.tris.length=m.tris.length+m.tris.length
 fm:∀i j,i<j->f i<f j
 gm:∀i j,i<j->g i<g j
 fl:∀i,i<m.tris.length->f i<m'.tris.length
 gl:∀i,i<m.tris.length->g i<m'.tris.length
 fa:∀i,i<m.tris.length->tAt m'.tris (f i)=tAt m.tris i
 ga:∀i,i<m.tris.length->tAt m'.tris (g i)=(tAt m.tris i).sh m.verts.length
 cov:∀j,j<m'.tris.length->∃i,i<m.tris.length/\(j=f i∨j=g i)
section
variable {m m':Mesh} {d:V3} {f g:Nat->Nat}
theorem Pair.rng (h:Pair m m' d f g) {i:Nat} (hi:i<m.tris.length) {e:P2} (he:e∈Q5 (tAt m.tris i)):0<=e.x/\e.x<m.verts.length/\0<=e.y/\e.y<m.verts.length:=by
 obtain⟨a0,a1,b0,b1,c0,c1⟩:=tok h.z (qb (Qk hi))
 rcases (mem_edges.1 he).2 with rfl | rfl | rfl
 ·exact⟨a0,a1,b0,b1⟩
 ·exact⟨b0,b1,c0,c1⟩
 ·exact⟨c0,c1,a0,a1⟩
theorem Pair.fe (h:Pair m m' d f g) {i:Nat} (hi:i<m.tris.length) {e:P2}:e∈Q5 (tAt m'.tris (f i))↔e∈Q5 (tAt m.tris i):=by rw[h.fa i hi]
theorem Pair.ge (h:Pair m m' d f g) {i:Nat} (hi:i<m.tris.length) {e:P2}:e∈Q5 (tAt m'.tris (g i))↔(⟨e.x-m.verts.length,e.y-m.verts.length⟩:P2)∈Q5 (tAt m.tris i):=by rw[h.ga i hi,Wp]
theorem Pair.no (h:Pair m m' d f g) {i j:Nat} (hi:i<m.tris.length) (hj:j<m.tris.length) {a b:P2} (ha:a∈Q5 (tAt m'.tris (f i))) (hb:b∈Q5 (tAt m'.tris (g j))) (hab:a.und=b.und):False:=by
 have h1:=h.rng hi ((h.fe hi).1 ha)
 have h2:=h.rng hj ((h.ge hj).1 hb)
 simp only[]at h2
 rcases Q2b hab with rfl | rfl
 ·omega
 ·simp only[P2.rev]at h1;omega
theorem Pair.e1 (h:Pair m m' d f g):Emb m.tris m'.tris f 0 where
 mono:=h.fm
 lt:=h.fl
 at_ i hi:=by rw[h.fa i hi,Qeo]
 out i j hi ha:=by
  obtain⟨_,hj,a,ha1,b,hb,hab⟩:=Uc ha
  obtain⟨i',hi',rfl | rfl⟩:=h.cov j hj
  ·exact⟨i',hi',rfl⟩
  ·exact(h.no hi hi' ha1 hb hab).elim
theorem Pair.e2 (h:Pair m m' d f g):Emb m.tris m'.tris g m.verts.length where
 mono:=h.gm
 lt:=h.gl
 at_ i hi:=h.ga i hi
 out i j hi ha:=by
  obtain⟨_,hj,a,ha1,b,hb,hab⟩:=Uc ha
  obtain⟨i',hi',rfl | rfl⟩:=h.cov j hj
  ·exact(h.no hi' hi hb ha1 hab.symm).elim
  ·exact⟨i',hi',rfl⟩
theorem Pair.dis (h:Pair m m' d f g) {i j:Nat} (hi:i<m.tris.length) (hj:j<m.tris.length):f i≠g j:=by
 intro he
 have h1:=h.fa i hi
 rw[he,h.ga j hj]at h1
 obtain⟨a0,a1,_⟩:=tok h.z (qb (Qk hi))
 obtain⟨b0,b1,_⟩:=tok h.z (qb (Qk hj))
 have:=congrArg T3.a h1
 simp only[T3.sh]at this
 omega
theorem Pair.coh (h:Pair m m' d f g):Coh m'.tris↔Coh m.tris:=by
 constructor
 ·intro hc i j e hi hj h1 h2
  exact h.e1.inj (hc (f i) (f j) e (h.fl i hi) (h.fl j hj) ((h.fe hi).2 h1) ((h.fe hj).2 h2))
 ·intro hc i' j' e hi' hj' h1 h2
  obtain⟨i,hi,rfl | rfl⟩:=h.cov i' hi'<;>obtain⟨j,hj,rfl | rfl⟩:=h.cov j' hj'
  ·rw[hc i j e hi hj ((h.fe hi).1 h1) ((h.fe hj).1 h2)]
  ·exact(h.no hi hj h1 h2 rfl).elim
  ·exact(h.no hj hi h2 h1 rfl).elim
  ·rw[hc i j _ hi hj ((h.ge hi).1 h1) ((h.ge hj).1 h2)]
theorem Pair.cohB (h:Pair m m' d f g):cohB m'.tris=cohB m.tris:=by
 rw[Bool.eq_iff_iff,cohB_iff,cohB_iff];exact h.coh
theorem V3.addZ (v:V3):v.add ⟨0,0,0⟩=v:=by cases v;simp[V3.add]
theorem Qaa (l:List V3):l.map (·.add ⟨0,0,0⟩)=l:=by
 conv=>rhs;rw[<- List.map_id l]
 exact jl λv _=>V3.addZ v
theorem Pair.v1 (h:Pair m m' d f g) {i:Int} (h0:0<=i) (h1:i<m.verts.length):vAt m'.verts (i+0)=(vAt m.verts i).add ⟨0,0,0⟩:=by
 rw[V3.addZ,h.vs,Int.add_zero]
 unfold vAt
 rw[qd (by omega)]
theorem Pair.v2 (h:Pair m m' d f g) {i:Int} (h0:0<=i) (h1:i<m.verts.length):vAt m'.verts (i+m.verts.length)=(vAt m.verts i).add d:=by
 have hlt:i.toNat<m.verts.length:=by omega
 rw[h.vs]
 unfold vAt
 rw[qf (by omega),show (i+(m.verts.length:Int)).toNat-m.verts.length=i.toNat by omega,qq,q9 hlt]
 rfl
theorem Pair.mv0 (h:Pair m m' d f g):Yb (m.verts.map (·.add ⟨0,0,0⟩))=true:=by
 rw[Qaa];exact(Mesh.check_zero.1 h.z).2.2.1
theorem Pair.perm (h:Pair m m' d f g):m'.tris.Perm (m.tris++m.tris.map (T3.sh m.verts.length)):=by
 have hr:(List.range m'.tris.length).Perm ((List.range m.tris.length).map f++(List.range m.tris.length).map g):=by
  refine (List.perm_ext_iff_of_nodup List.nodup_range ?_).2 λj=>?_
  ·rw[List.nodup_append]
   refine⟨Kh List.nodup_range λa _ b _ he=>h.e1.inj he,Kh List.nodup_range λa _ b _ he=>h.e2.inj he,λa ha b hb=>?_⟩
   obtain⟨i,hi,rfl⟩:=qp.1 ha
   obtain⟨j,hj,rfl⟩:=qp.1 hb
   exact h.dis (qz.1 hi) (qz.1 hj)
  ·rw[qz,qg,qp,qp]
   constructor
   ·intro hj
    obtain⟨i,hi,rfl | rfl⟩:=h.cov j hj
    ·exact .inl ⟨i,qz.2 hi,rfl⟩
    ·exact .inr ⟨i,qz.2 hi,rfl⟩
   ·rintro (⟨i,hi,rfl⟩ | ⟨i,hi,rfl⟩)
    ·exact h.fl _ (qz.1 hi)
    ·exact h.gl _ (qz.1 hi)
 have hat:∀ts:List T3,(List.range ts.length).map (tAt ts)=ts:=λts=>by
  apply qy
  intro i
  rw[qq]
  by_cases hi:i<ts.length
  ·rw[jg hi,Qk hi];rfl
  ·rw[qk (by simpa using hi),qk (by omega)];rfl
 have h1:=hr.map (tAt m'.tris)
 rw[hat,qx,List.map_map,List.map_map]at h1
 have h2:(List.range m.tris.length).map (tAt m'.tris ∘ f)=m.tris:=by
  conv=>rhs;rw[<- hat m.tris]
  exact jl λi hi=>h.fa i (qz.1 hi)
 have h3:(List.range m.tris.length).map (tAt m'.tris ∘ g)=m.tris.map (T3.sh m.verts.length):=by
  conv=>rhs;rw[<- hat m.tris]
  rw[List.map_map]
  exact jl λi hi=>h.ga i (qz.1 hi)
 rw[h2,h3]at h1
 exact h1
theorem Pair.vol (h:Pair m m' d f g) (hc:m.closed=true):Za m'.verts m'.tris=2*Za m.verts m.tris:=by
 have hk:=Q9h hc (d:=d) h.mv
 rw[J9 h.z,J9 (Kz h.z h.mv)]at hk
 have ht:=(Mesh.check_zero.1 h.z).2.2.2
 have h1:=Q74 (λi=>h.v1 (i:=i)) ht
 rw[Qaa]at h1
 have h2:=Q74 (λi=>h.v2 (i:=i)) ht
 rw[Q2o _ h.perm,Q9i,h2]
 have h3:m.tris.map (T3.sh 0)=m.tris:=by
  conv=>rhs;rw[<- List.map_id m.tris]
  exact jl λt _=>Qeo t
 rw[h3]at h1
 rw[h1]
 have h4:Za (m.verts.map (·.add d)) m.tris=Za m.verts m.tris:=hk
 rw[h4];omega
theorem Pair.shells (h:Pair m m' d f g):m'.shells.length=2*m.shells.length:=by
 obtain⟨L,hL⟩:=Yq m.tris
 obtain⟨L',hL'⟩:=Yq m'.tris
 have hR:m.shells=Y1 L m.tris.length:=by unfold Mesh.shells;rw[if_pos h.z,Zj hL,hL.len]
 have hR':m'.shells=Y1 L' m'.tris.length:=by unfold Mesh.shells;rw[if_pos h.z',Zj hL',hL'.len]
 rw[hR,hR']
 unfold Y1
 rw[List.length_map,List.length_map]
 have hr:((List.range m'.tris.length).filter λ(i:Nat)=>decide (L'[i]?=some (i:Int))).Perm
   (((List.range m.tris.length).filter λ(i:Nat)=>decide (L[i]?=some (i:Int))).map f++((List.range m.tris.length).filter λ(i:Nat)=>decide (L[i]?=some (i:Int))).map g):=by
  have hn:((List.range m.tris.length).filter λ(i:Nat)=>decide (L[i]?=some (i:Int))).Nodup:=List.nodup_range.filter _
  refine (List.perm_ext_iff_of_nodup (List.nodup_range.filter _) ?_).2 λj=>?_
  ·rw[List.nodup_append]
   refine⟨Kh hn λa _ b _ he=>h.e1.inj he,Kh hn λa _ b _ he=>h.e2.inj he,λa ha b hb=>?_⟩
   obtain⟨i,hi,rfl⟩:=qp.1 ha
   obtain⟨j,hj,rfl⟩:=qp.1 hb
   exact h.dis (qz.1 (qv.1 hi).1) (qz.1 (qv.1 hj).1)
  ·simp only[qg,qp,qv,qz,decide_eq_true_eq]
   constructor
   ·rintro⟨hj,hl⟩
    obtain⟨i,hi,rfl | rfl⟩:=h.cov j hj
    ·exact .inl ⟨i,⟨hi,(h.e1.labR hL hL' hi).1 hl⟩,rfl⟩
    ·exact .inr ⟨i,⟨hi,(h.e2.labR hL hL' hi).1 hl⟩,rfl⟩
   ·rintro (⟨i,⟨hi,hl⟩,rfl⟩ | ⟨i,⟨hi,hl⟩,rfl⟩)
    ·exact⟨h.fl i hi,h.e1.lab hL hL' hl⟩
    ·exact⟨h.gl i hi,h.e2.lab hL hL' hl⟩
 rw[hr.length_eq,j3,List.length_map,List.length_map]
 omega
theorem Qcs {x:Mesh} (hz:x.check=0) {L:List Int} (hL:IsLab x.tris L) {i q:Nat} (hi:i<x.tris.length) (hq:L[i]?=some (q:Int)) :
  ((i:Int)∈x.negs.flatten↔Za x.verts (Qj x.tris (shK L q L.length))<0):=by
 have hR:x.shells=Y1 L x.tris.length:=by unfold Mesh.shells;rw[if_pos hz,Zj hL,hL.len]
 obtain⟨q',h1,h2,h3,h4,h5⟩:=Qcx hL hi
 rw[hq]at h1
 have:=Option.some.inj h1
 obtain rfl:q=q':=by omega
 unfold Mesh.negs
 rw[hR]
 exact Bd h4 h5
theorem Pair.outw (h:Pair m m' d f g) (hc:Coh m.tris) (hclo:Clo m.tris):Pair m.outw m'.outw d f g:=by
 obtain⟨L,hL⟩:=Yq m.tris
 obtain⟨L',hL'⟩:=Yq m'.tris
 have hl1:m.outw.tris.length=m.tris.length:=Zf _ _
 have hl2:m'.outw.tris.length=m'.tris.length:=Zf _ _
 have key:∀i,i<m.tris.length->(((f i:Nat):Int)∈m'.negs.flatten↔(i:Int)∈m.negs.flatten)/\(((g i:Nat):Int)∈m'.negs.flatten↔(i:Int)∈m.negs.flatten):=by
  intro i hi
  obtain⟨q,h1,h2,h3,h4,h5⟩:=Qcx hL hi
  rw[Qcs h.z hL hi h1,Qcs h.z' hL' (h.fl i hi) (h.e1.lab hL hL' h1),Qcs h.z' hL' (h.gl i hi) (h.e2.lab hL hL' h1),
   Emb.vol h.z hc hclo h.e1 h.mv0 (λi=>h.v1 (i:=i)) hL hL' h2,Emb.vol h.z hc hclo h.e2 h.mv (λi=>h.v2 (i:=i)) hL hL' h2]
  exact⟨Iff.rfl,Iff.rfl⟩
 refine⟨Q0y h.z _,Q0y h.z' _,h.vs,h.mv,by rw[hl1,hl2];exact h.len,h.fm,h.gm,λi hi=>?_,λi hi=>?_,λi hi=>?_,λi hi=>?_,λj hj=>?_⟩
 ·rw[hl2];exact h.fl i (by rw[<- hl1];exact hi)
 ·rw[hl2];exact h.gl i (by rw[<- hl1];exact hi)
 ·rw[hl1]at hi
  show tAt (flp m'.tris m'.negs.flatten) (f i)=tAt (flp m.tris m.negs.flatten) i
  rw[Jx (h.fl i hi),Jx hi,h.fa i hi]
  by_cases hn:(i:Int)∈m.negs.flatten
  ·rw[if_pos hn,if_pos ((key i hi).1.2 hn)]
  ·rw[if_neg hn,if_neg (λhh=>hn ((key i hi).1.1 hh))]
 ·rw[hl1]at hi
  show tAt (flp m'.tris m'.negs.flatten) (g i)=(tAt (flp m.tris m.negs.flatten) i).sh m.verts.length
  rw[Jx (h.gl i hi),Jx hi,h.ga i hi]
  by_cases hn:(i:Int)∈m.negs.flatten
  ·rw[if_pos hn,if_pos ((key i hi).2.2 hn)];rfl
  ·rw[if_neg hn,if_neg (λhh=>hn ((key i hi).2.1 hh))]
 ·rw[hl2]at hj
  rw[hl1];exact h.cov j hj
theorem Pair.deg (h:Pair m m' d f g):m'.tris.any m'.deg=m.tris.any m.deg:=by
 have hk:∀i:Int,0<=i->i<m.verts.length->((m.v i).add d).valid=true:=λi h0 h1 =>
  qj.1 h.mv _ (qp.2 ⟨_,Mesh.v_mem h0 h1,rfl⟩)
 have w1:∀i:Int,0<=i->i<m.verts.length->m'.v i=m.v i:=λi h0 h1=>by
  have:=h.v1 h0 h1
  rw[V3.addZ,Int.add_zero]at this
  exact this
 have w2:∀i:Int,0<=i->i<m.verts.length->m'.v (i+m.verts.length)=(m.v i).add d:=λi h0 h1=>h.v2 h0 h1
 have d1:∀t∈m.tris,m'.deg t=m.deg t:=λt ht=>by
  obtain⟨a0,a1,b0,b1,c0,c1⟩:=tok h.z ht
  unfold Mesh.deg
  rw[w1 _ a0 a1,w1 _ b0 b1,w1 _ c0 c1]
 have d2:∀t∈m.tris,m'.deg (t.sh m.verts.length)=m.deg t:=λt ht=>by
  obtain⟨a0,a1,b0,b1,c0,c1⟩:=tok h.z ht
  unfold Mesh.deg
  simp only[T3.sh]
  rw[w2 _ a0 a1,w2 _ b0 b1,w2 _ c0 c1]
  exact Q4x (Kg h.z a0 a1) (Kg h.z b0 b1) (Kg h.z c0 c1) (hk _ a0 a1) (hk _ b0 b1) (hk _ c0 c1)
 rw[Bool.eq_iff_iff,List.any_eq_true,List.any_eq_true]
 constructor
 ·rintro⟨t,ht,hh⟩
  rcases qg.1 (h.perm.mem_iff.1 ht) with ht | ht
  ·exact⟨t,ht,by rw[<- d1 t ht];exact hh⟩
  ·obtain⟨s,hs,rfl⟩:=qp.1 ht
   exact⟨s,hs,by rw[<- d2 s hs];exact hh⟩
 ·rintro⟨t,ht,hh⟩
  exact⟨t,h.perm.mem_iff.2 (List.mem_append_left _ ht),by rw[d1 t ht];exact hh⟩
end
theorem Qfe {x:Mesh} (h:OutOk x):K4 x=if x.tris.any x.deg=true then 1 else 0:=by
 have h5:x.inv=false:=by
  unfold Mesh.inv
  rw[List.any_eq_false];intro sh hs;have:=h.vol sh hs;simp;omega
 unfold K4
 rw[if_neg (by simpa using h.z),if_neg (by rw[h.clo];simp),if_neg (by rw[h.coh];simp),if_neg (show ¬ x.inv=true by rw[h5];simp)]
end Go.Abs
