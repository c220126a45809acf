/- Part of the library on which the proof stands: an abstract machine, its values and its soundness against the model; or what functions of the program do to such values. -/
import Derived.Test.YtjggbpiapinceaaGreatGoDet
import Derived.Test.YtjggbpiapinceaaGreatGoRsD
import Derived.Test.YtjggbpiapinceaaGreatGoOriB
import Derived.Test.YtjggbpiapinceaaGreatGoRw
import Derived.Test.YtjggbpiapinceaaGreatGoSl
import Derived.Test.YtjggbpiapinceaaGreatGoSkA
set_option linter.unusedVariables false
set_option linter.unusedSimpArgs false
namespace Go.Abs
def Qq (ts:List T3) (sh:List Int):List T3:=sh.map λv=>tAt ts v.toNat
def flp (ts:List T3) (F:List Int):List T3:=(List.range ts.length).map λ(i:Nat)=>if (i:Int)∈F then (tAt ts i).rev else tAt ts i
theorem Y1 (ts:List T3) (F:List Int):(flp ts F).length=ts.length:=by simp[flp]
theorem Ep {ts:List T3} {F:List Int} {i:Nat} (h:i<ts.length):(flp ts F)[i]?=some (if (i:Int)∈F then (tAt ts i).rev else tAt ts i):=by
 unfold flp
 rw[qq,ji h];rfl
theorem Bl {ts:List T3} {F:List Int} {i:Nat} (h:i<ts.length):tAt (flp ts F) i=if (i:Int)∈F then (tAt ts i).rev else tAt ts i:=by
 have:=Ep (F:=F) h
 unfold tAt at this ⊢
 rw[this];rfl
theorem flp_nil (ts:List T3):flp ts []=ts:=by
 apply qy
 intro i
 by_cases h:i<ts.length
 ·rw[Ep h,Qr h];simp
 ·rw[qk (by rw[Y1];omega),qk (by omega)]
theorem flp_set {ts:List T3} {F:List Int} {v:Nat} (hv:v<ts.length):(flp ts F).set v (tAt ts v).rev=flp ts (F++[(v:Int)]):=by
 apply qy
 intro i
 by_cases h:i<ts.length
 ·rw[Ep h]
  by_cases hi:v=i
  ·subst hi
   rw[qn (by rw[Y1];exact hv)]
   simp
  ·rw[qu hi,Ep h]
   have:((i:Int)∈F++[(v:Int)])↔(i:Int)∈F:=by
    rw[qg,qo]
    constructor
    ·rintro (h | h)
     ·exact h
     ·omega
    ·exact .inl
   simp only[this]
 ·rw[qk (by rw[List.length_set,Y1];omega),qk (by rw[Y1];omega)]
theorem Qh9 (ts:List T3) (F:List Int):Fl ts (flp ts F) where
 len:=Y1 ts F
 at_ i t u h1 h2:=by
  have hi:=(q8.1 h1).1
  rw[Ep hi]at h2
  rw[Qr hi]at h1
  obtain rfl:=Option.some.inj h1
  have h2:=Option.some.inj h2
  split at h2
  ·exact .inr h2.symm
  ·exact .inl h2.symm
def Y9 (vs:List V3) (ts:List T3) (shs:List (List Int)):List (List Int):=shs.filter λsh=>decide (Y5 vs (Qq ts sh)<0)
theorem Qdi (vs:List V3) (ts:List T3) (shs:List (List Int)) (sh:List Int):Y9 vs ts (shs++[sh])=Y9 vs ts shs++if Y5 vs (Qq ts sh)<0 then [sh] else []:=by
 unfold Y9
 rw[List.filter_append]
 by_cases h:Y5 vs (Qq ts sh)<0<;>simp[h]
theorem Qgi (vs:List V3) (ts:List T3) (shs:List (List Int)):(Y9 vs ts shs).length<=shs.length:=j9 _ _
noncomputable def Mesh.negs (m:Mesh):List (List Int):=Y9 m.verts m.tris m.shells
noncomputable def Mesh.outw (m:Mesh):Mesh:=⟨m.verts,flp m.tris m.negs.flatten⟩
def Q7t (p:Mesh × Int × Int):V:=.t [p.1.enc,.i .i64 p.2.1,.i .i64 p.2.2]
noncomputable def Yu (m:Mesh):Mesh × Int × Int :=
 if m.check≠0 then (⟨[],[]⟩,0,m.check) else if m.closed=false then (⟨[],[]⟩,0,12) else if Ke m.tris=false then (⟨[],[]⟩,0,13) else (m.outw,m.negs.length,0)
def Q6t (P:Program) (f:FuncId):Prop:=∀m:Mesh,CallIs P f [m.enc] (Q7t (Yu m))
theorem Q0i (e:Int):Le (.t [.a [.nil,.nil],.i .i64 0,.i .i64 e]) (Q7t (⟨[],[]⟩,0,e)) :=
 .inr ⟨_,_,rfl,rfl,.inr ⟨_,_,rfl,rfl,Le0.nil 3,Le0.nil 3,trivial⟩,Le1.refl _,Le1.refl _,trivial⟩
structure ShOk (n:Nat) (shs:List (List Int)):Prop where
 num:shs.length<=n
 len:∀sh∈shs,sh.length<=n
 mem:∀sh∈shs,∀v∈sh,0<=v/\v<n
 nodup:shs.flatten.Nodup
theorem Qfv (L:List Int) (i k:Nat):(shK L i k).Nodup:=by
 have hsh:(shK L i k).Pairwise λa b=>a<b:=by
  unfold shK
  rw[je]
  have h1:(List.range k).Pairwise (λa b:Nat=>a<b):=List.pairwise_lt_range
  exact(h1.filter _).imp λ{a b:Nat} (h:a<b)=>by show (a:Int)<(b:Int);omega
 exact hsh.imp λh=>by omega
theorem mem_shK2 {L:List Int} {i k:Nat} {v:Int}:v∈shK L i k↔∃j:Nat,v=(j:Int)/\j<k/\L[j]?=some (i:Int):=by
 unfold shK
 rw[qp]
 constructor
 ·rintro⟨j,hj,rfl⟩
  have hf:=qv.1 hj
  exact⟨j,rfl,qz.1 hf.1,by simpa using hf.2⟩
 ·rintro⟨j,rfl,h1,h2⟩
  exact⟨j,qv.2 ⟨qz.2 h1,by simpa using h2⟩,rfl⟩
theorem shsK_mem {L:List Int} {k:Nat} {sh:List Int}:sh∈Yk L k↔∃i:Nat,i<k/\L[i]?=some (i:Int)/\sh=shK L i L.length:=by
 unfold Yk
 rw[qp]
 constructor
 ·rintro⟨i,hi,rfl⟩
  have hf:=qv.1 hi
  exact⟨i,qz.1 hf.1,by simpa using hf.2,rfl⟩
 ·rintro⟨i,h1,h2,rfl⟩
  exact⟨i,qv.2 ⟨qz.2 h1,by simpa using h2⟩,rfl⟩
theorem Qft (L:List Int) (k:Nat):(Yk L k).flatten.Nodup:=by
 induction k with
 | zero=>simp[Yk]
 | succ k ih =>
   rw[Q8f]
   split
   ·rw[List.flatten_append,List.nodup_append]
    refine⟨ih,by simpa using Qfv L k L.length,λa ha b hb=>?_⟩
    simp at hb
    obtain⟨sh,hs,has⟩:=List.mem_flatten.1 ha
    obtain⟨i,hi,_,rfl⟩:=shsK_mem.1 hs
    obtain⟨j,rfl,_,hj⟩:=mem_shK2.1 has
    rintro rfl
    obtain⟨j',hjj,_,hj'⟩:=mem_shK2.1 hb
    obtain rfl:j=j':=by omega
    rw[hj]at hj'
    have:=Option.some.inj hj'
    omega
   ·simpa using ih
theorem Q8g {m:Mesh} (hz:m.check=0):ShOk m.tris.length m.shells:=by
 obtain⟨L,hL⟩:=Up m.tris
 have hR:m.shells=Yk L m.tris.length:=by unfold Mesh.shells;rw[if_pos hz,Ym hL,hL.len]
 rw[hR]
 refine⟨?_,λsh hs=>?_,λsh hs v hv=>?_,Qft _ _⟩
 ·unfold Yk
  rw[List.length_map]
  have:=j9 (λ(i:Nat)=>decide (L[i]?=some (i:Int))) (List.range m.tris.length)
  rwa [List.length_range]at this
 ·obtain⟨i,_,_,rfl⟩:=shsK_mem.1 hs
  unfold shK
  rw[List.length_map]
  have:=j9 (λ(j:Nat)=>decide (L[j]?=some (i:Int))) (List.range L.length)
  rw[List.length_range,hL.len]at this
  rw[hL.len]
  omega
 ·obtain⟨i,_,_,rfl⟩:=shsK_mem.1 hs
  obtain⟨j,rfl,h1,_⟩:=mem_shK2.1 hv
  rw[hL.len]at h1
  omega
theorem Qo9 {n:Nat} {ts:List T3} (h:U7 n ts=true) {i:Nat} (hi:i<ts.length):(tAt ts i).ok n=true:=Bx h (Qr hi)
theorem Q5a {m:Mesh} (hz:m.check=0) {sh:List Int} (hl:sh.length<=m.tris.length) (hv:∀v∈sh,0<=v/\v<m.tris.length):(Mesh.mk m.verts (Qq m.tris sh)).check=0:=by
 obtain⟨z1,z2,z3,z4⟩:=Mesh.check_zero.1 hz
 refine Mesh.check_zero.2 ⟨z1,by simp[Qq];omega,z3,?_⟩
 simp only[U7,qj,Qq,qp]
 rintro t ⟨v,hvs,rfl⟩
 have:=hv v hvs
 exact Qo9 z4 (by omega)
theorem T3.rev_ok {n:Nat} {t:T3} (h:t.ok n=true):t.rev.ok n=true:=by
 obtain⟨a1,a2,b1,b2,c1,c2⟩:=T3.ok_iff.1 h
 exact T3.ok_iff.2 ⟨a1,a2,c1,c2,b1,b2⟩
theorem Qm3 {m:Mesh} (hz:m.check=0) (F:List Int):(Mesh.mk m.verts (flp m.tris F)).check=0:=by
 obtain⟨z1,z2,z3,z4⟩:=Mesh.check_zero.1 hz
 refine Mesh.check_zero.2 ⟨z1,by rw[Y1];exact z2,z3,?_⟩
 simp only[U7,qj]
 intro t ht
 obtain⟨i,hi⟩:=qr ht
 have hil:=(q8.1 hi).1
 rw[Y1]at hil
 rw[Ep hil]at hi
 obtain rfl:=Option.some.inj hi
 have:=Qo9 z4 hil
 split
 ·exact T3.rev_ok this
 ·exact this
theorem Qil {a b:P2} (h:a.und=b.und):a=b∨a=b.rev:=by
 cases a;cases b
 simp only[P2.und,P2.rev,P2.mk.injEq]at h ⊢
 omega
theorem Q80 (t:T3):(Q6 t).Nodup:=by
 have h0:Q6 t=(Yq t).filter λe=>decide (e.x≠e.y):=rfl
 rw[h0,List.nodup_iff_pairwise_ne,List.pairwise_filter]
 unfold Yq
 simp only[ja,List.mem_cons,List.not_mem_nil,or_false,decide_eq_true_eq,ne_eq,false_implies,implies_true,List.Pairwise.nil,and_true,P2.mk.injEq]
 refine⟨λx hx h1 h2=>?_,λx hx h1 h2=>?_⟩
 ·rcases hx with rfl | rfl
  ·simp only[P2.mk.injEq];simp only at h1 h2;omega
  ·simp only[P2.mk.injEq];simp only at h1 h2;omega
 ·subst hx
  simp only[P2.mk.injEq];simp only at h1 h2;omega
def Coh (ts:List T3):Prop:=∀(i j:Nat) (e:P2),i<ts.length->j<ts.length->e∈Q6 (tAt ts i)->e∈Q6 (tAt ts j)->i=j
theorem Q1g {ts:List T3} {i:Nat} (h:i<ts.length):ts[i]=tAt ts i:=by
 have:=Qr h
 rw[q9 h]at this
 exact Option.some.inj this
theorem coh_iff {ts:List T3}:(Qc ts).Nodup↔Coh ts:=by
 have h0:(Qc ts).Nodup↔(∀t∈ts,(Q6 t).Nodup)/\ts.Pairwise λs t=>∀x∈Q6 s,∀y∈Q6 t,x≠y:=List.pairwise_flatMap
 rw[h0,j5]
 constructor
 ·rintro⟨_,h⟩ i j e hi hj h1 h2
  rcases Nat.lt_trichotomy i j with hh | hh | hh
  ·exact absurd rfl (h i j hi hj hh e (by rw[Q1g hi];exact h1) e (by rw[Q1g hj];exact h2))
  ·exact hh
  ·exact absurd rfl (h j i hj hi hh e (by rw[Q1g hj];exact h2) e (by rw[Q1g hi];exact h1))
 ·intro h
  refine⟨λt _=>Q80 t,λi j hi hj hij x hx y hy=>?_⟩
  rintro rfl
  rw[Q1g hi]at hx
  rw[Q1g hj]at hy
  have:=h i j x hi hj hx hy
  omega
theorem cohB_iff {ts:List T3}:Ke ts=true↔Coh ts:=by unfold Ke;rw[decide_eq_true_eq];exact coh_iff
theorem Fl.tat {ts us:List T3} (h:Fl ts us) {i:Nat} (hi:i<ts.length):tAt us i=tAt ts i∨tAt us i=(tAt ts i).rev :=
 h.at_ i _ _ (Qr hi) (Qr (by rw[h.len];exact hi))
theorem Qio {us vs:List T3} (hl:us.length=vs.length) (h:∀i,i<us.length->tAt us i=tAt vs i):us=vs:=by
 apply qy
 intro i
 by_cases hi:i<us.length
 ·rw[Qr hi,Qr (by omega),h i hi]
 ·rw[qk (by omega),qk (by omega)]
theorem Qsp {ts:List T3} {i j:Nat} (h:adjI ts i j):i<ts.length/\j<ts.length/\∃a∈Q6 (tAt ts i),∃b∈Q6 (tAt ts j),a.und=b.und:=by
 have hl:=h.lt
 obtain⟨s,t,hs,ht,a,ha,b,hb,hab⟩:=h
 rw[Qr hl.1]at hs
 rw[Qr hl.2]at ht
 obtain rfl:=Option.some.inj hs
 obtain rfl:=Option.some.inj ht
 exact⟨hl.1,hl.2,a,ha,b,hb,hab⟩
theorem E8 {ts:List T3} {i j:Nat} (hi:i<ts.length) (hj:j<ts.length) {a b:P2} (ha:a∈Q6 (tAt ts i)) (hb:b∈Q6 (tAt ts j)) (h:a.und=b.und):adjI ts i j :=
 ⟨_,_,Qr hi,Qr hj,a,ha,b,hb,h⟩
structure Good (ts us:List T3) (L:List Int):Prop where
 fl:Fl ts us
 coh:Coh us
 first:∀i:Nat,i<ts.length->L[i]?=some (i:Int)->tAt us i=tAt ts i
theorem Good.step {ts us vs:List T3} {L:List Int} (h:Good ts us L) (k:Good ts vs L) {i j:Nat} (ha:adjI ts i j) (he:tAt us i=tAt vs i):tAt us j=tAt vs j:=by
 obtain⟨hi,hj,a,haa,b,hbb,hab⟩:=Qsp (h.fl.adj ha)
 rw[h.fl.len]at hi hj
 by_cases hij:i=j
 ·subst hij;exact he
 refine j8 λhne=>?_
 have hrev:tAt vs j=(tAt us j).rev:=by
  rcases h.fl.tat hj with h1 | h1<;>rcases k.fl.tat hj with h2 | h2
  ·exact absurd (h1.trans h2.symm) hne
  ·rw[h1,h2]
  ·rw[h1,h2];rfl
  ·exact absurd (h1.trans h2.symm) hne
 rcases Qil hab with rfl | hab
 ·exact hij (h.coh i j a (by rw[h.fl.len];exact hi) (by rw[h.fl.len];exact hj) haa hbb)
 ·refine hij (k.coh i j a (by rw[k.fl.len];exact hi) (by rw[k.fl.len];exact hj) (by rw[<- he];exact haa) ?_)
  rw[hrev,mem_edges_rev,hab,rev_rev]
  exact hbb
theorem Good.eq {ts us vs:List T3} {L:List Int} (hL:IsLab ts L) (h:Good ts us L) (k:Good ts vs L):us=vs:=by
 refine Qio (by rw[h.fl.len,k.fl.len]) λj hj=>?_
 rw[h.fl.len]at hj
 have hv:L[j]?=some (L[j]'(by rw[hL.len];exact hj)):=q9 _
 generalize L[j]'(by rw[hL.len];exact hj)=v at hv
 obtain⟨v0,v1,hc⟩:=hL.con j v hv
 have hvv:=hL.conn hc
 rw[hv]at hvv
 have hc':=hc.symm
 have hvl:=hc'.lt.1
 have hLv:L[v.toNat]?=some (v.toNat:Int):=by rw[<- hvv];congr 1;omega
 have h0:tAt us v.toNat=tAt vs v.toNat:=by rw[h.first _ hvl hLv,k.first _ hvl hLv]
 clear hv hvv hc hj v1
 induction hc' with
 | refl _=>exact h0
 | tail _ h2 ih=>exact h.step k h2 ih
open Classical in
noncomputable def Y8 (ts:List T3):Option (List T3):=if h:∃us,Good ts us (labOf ts) then some (Classical.choose h) else none
theorem Qa8 {ts us:List T3} {L:List Int} (hL:IsLab ts L) (h:Good ts us L):Y8 ts=some us:=by
 unfold Y8
 rw[Ym hL]
 have hex:∃us,Good ts us L:=⟨us,h⟩
 rw[dif_pos hex]
 congr 1
 exact(Classical.choose_spec hex).eq hL h
theorem Qa9 {ts:List T3} {L:List Int} (hL:IsLab ts L) (h:∀us,¬ Good ts us L):Y8 ts=none:=by
 unfold Y8
 rw[Ym hL,dif_neg]
 rintro⟨us,hu⟩
 exact h us hu
theorem Qaa {ts us:List T3} {L:List Int} (hL:IsLab ts L) (h:Y8 ts=some us):Good ts us L:=by
 unfold Y8 at h
 rw[Ym hL]at h
 split at h
 ·rename_i hex
  obtain rfl:=Option.some.inj h
  exact Classical.choose_spec hex
 ·simp at h
def Q6j (ts us:List T3):Nat:=((List.range ts.length).filter λi=>decide (tAt us i≠tAt ts i)).length
noncomputable def Zz (m:Mesh):Mesh × Int × Int :=
 if m.check≠0 then (⟨[],[]⟩,0,m.check) else match Y8 m.tris with
 | none=>(⟨[],[]⟩,0,13)
 | some us=>(⟨m.verts,us⟩,Q6j m.tris us,0)
def Qc4 (P:Program) (f:FuncId):Prop:=∀m:Mesh,CallIs P f [m.enc] (Q7t (Zz m))
theorem Ee {us:List T3} {j:Nat} (hj:j<us.length) (i:Nat) (t:T3):tAt (us.set j t) i=if i=j then t else tAt us i:=by
 unfold tAt
 by_cases h:i=j
 ·subst h;rw[qn hj,if_pos rfl];rfl
 ·rw[qu (λhh=>h hh.symm),if_neg h]
theorem Fl.set {ts us:List T3} (h:Fl ts us) {j:Nat} (hj:j<ts.length):Fl ts (us.set j (tAt us j).rev) where
 len:=by rw[List.length_set,h.len]
 at_ i t u h1 h2:=by
  have hi:=(q8.1 h1).1
  have hju:j<us.length:=by rw[h.len];exact hj
  rw[Qr (by rw[List.length_set,h.len];exact hi)]at h2
  rw[Qr hi]at h1
  obtain rfl:=Option.some.inj h1
  obtain rfl:=Option.some.inj h2
  rw[Ee hju]
  split
  ·rename_i hh;subst hh
   rcases h.tat hj with h3 | h3
   ·exact .inr (by rw[h3])
   ·exact .inl (by rw[h3];rfl)
  ·exact h.tat hi
theorem Fl.refl (ts:List T3):Fl ts ts:=⟨rfl,λi t u h1 h2=>.inl (by rw[h1]at h2;exact(Option.some.inj h2).symm)⟩
theorem Qmj (ts:List T3):Q6j ts ts=0:=by unfold Q6j;simp
theorem Qhf {n j:Nat} (hj:j<n) {p q:Nat->Bool} (hq:∀i,i<n->q i=(if i=j then true else p i)) (hp:p j=false):((List.range n).filter q).length=((List.range n).filter p).length+1:=by
 induction n with
 | zero=>omega
 | succ n ih =>
   rw[List.range_succ,List.filter_append,List.filter_append,j4,j4]
   by_cases h:j=n
   ·subst h
    have h1:(List.range j).filter q=(List.range j).filter p:=by
     refine List.filter_congr λi hi=>?_
     have:=qz.1 hi
     rw[hq i (by omega),if_neg (by omega)]
    rw[h1]
    have h2:=hq j (by omega)
    rw[if_pos rfl]at h2
    simp[h2,hp]
   ·have h1:=ih (by omega) λi hi=>hq i (by omega)
    have h2:=hq n (by omega)
    rw[if_neg (λhh=>h hh.symm)]at h2
    rw[h1]
    by_cases h3:p n=true<;>simp[h2,h3]<;>omega
theorem Qs6 {ts us:List T3} (hl:us.length=ts.length) {j:Nat} (hj:j<ts.length) (he:tAt us j=tAt ts j) {t:T3} (hne:t≠tAt ts j):Q6j ts (us.set j t)=Q6j ts us+1:=by
 unfold Q6j
 refine Qhf hj (λi hi=>?_) (by simp[he])
 rw[Ee (by rw[hl];exact hj)]
 by_cases h:i=j
 ·subst h;simp[hne]
 ·simp[h]
structure OrI (ts us:List T3) (L X:List Int) (n:Nat):Prop where
 fl:Fl ts us
 new:∀i:Nat,i<ts.length->(i:Int)∉X->tAt us i=tAt ts i
 first:∀i:Nat,i<ts.length->L[i]?=some (i:Int)->tAt us i=tAt ts i
 num:n<=X.length
 good:∀vs,Good ts vs L->(∀i:Nat,i<ts.length->(i:Int)∈X->tAt us i=tAt vs i)/\n=Q6j ts us
theorem OrI.start (ts:List T3) (L:List Int):OrI ts ts L [] 0 :=
 ⟨Fl.refl ts,λ_ _ _=>rfl,λ_ _ _=>rfl,Nat.zero_le _,λvs h=>⟨by simp,by rw[Qmj]⟩⟩
theorem mem_snoc {X:List Int} {k i:Int}:i∈X++[k]↔i∈X∨i=k:=by simp
theorem OrI.top {ts us:List T3} {L X:List Int} {n:Nat} (h:OrI ts us L X n) {k:Nat} (hk:k<ts.length) (hx:(k:Int)∉X) (hL:L[k]?=some (k:Int)):OrI ts us L (X++[(k:Int)]) n where
 fl:=h.fl
 new i hi hn:=h.new i hi λhh=>hn (mem_snoc.2 (.inl hh))
 first:=h.first
 num:=by have:=h.num;simp;omega
 good vs hv:=by
  obtain⟨h1,h2⟩:=h.good vs hv
  refine⟨λi hi hm=>?_,h2⟩
  rcases mem_snoc.1 hm with hm | hm
  ·exact h1 i hi hm
  ·obtain rfl:i=k:=by omega
   rw[h.first i hi hL,hv.first i hi hL]
theorem OrI.keep {ts us:List T3} {L X:List Int} {n:Nat} (h:OrI ts us L X n) {i k:Nat} (hi:i<ts.length) (hk:k<ts.length) (hix:(i:Int)∈X) (hx:(k:Int)∉X) {e:P2} (he:e∈Q6 (tAt us i)) (hno:e∉Q6 (tAt us k))
  {b:P2} (hb:b∈Q6 (tAt ts k)) (hbe:b.und=e.und):OrI ts us L (X++[(k:Int)]) n where
 fl:=h.fl
 new i hi hn:=h.new i hi λhh=>hn (mem_snoc.2 (.inl hh))
 first:=h.first
 num:=by have:=h.num;simp;omega
 good vs hv:=by
  obtain⟨h1,h2⟩:=h.good vs hv
  refine⟨λj hj hm=>?_,h2⟩
  rcases mem_snoc.1 hm with hm | hm
  ·exact h1 j hj hm
  ·obtain rfl:j=k:=by omega
   have huk:=h.new j hj hx
   rw[huk]at hno ⊢
   rcases hv.fl.tat hj with h3 | h3
   ·exact h3.symm
   ·exfalso
    rcases Qil hbe with rfl | rfl
    ·exact hno hb
    ·have hij:=hv.coh i j e (by rw[hv.fl.len];exact hi) (by rw[hv.fl.len];exact hj) (by rw[<- h1 i hi hix];exact he) (by rw[h3,mem_edges_rev];exact hb)
     subst hij
     exact hx hix
theorem OrI.turn {ts us:List T3} {L X:List Int} {n:Nat} (h:OrI ts us L X n) {i k:Nat} (hi:i<ts.length) (hk:k<ts.length) (hix:(i:Int)∈X) (hx:(k:Int)∉X) (hL:L[k]? ≠ some (k:Int)) {e:P2} (he:e∈Q6 (tAt us i)) (hye:e∈Q6 (tAt us k)) :
  OrI ts (us.set k (tAt us k).rev) L (X++[(k:Int)]) (n+1) where
 fl:=h.fl.set hk
 new j hj hn:=by
  rw[Ee (by rw[h.fl.len];exact hk),if_neg (λhh=>hn (mem_snoc.2 (.inr (by omega))))]
  exact h.new j hj λhh=>hn (mem_snoc.2 (.inl hh))
 first j hj hLj:=by
  rw[Ee (by rw[h.fl.len];exact hk),if_neg (by rintro rfl;exact hL hLj)]
  exact h.first j hj hLj
 num:=by have:=h.num;simp;omega
 good vs hv:=by
  obtain⟨h1,h2⟩:=h.good vs hv
  have huk:=h.new k hk hx
  have hvk:tAt vs k=(tAt us k).rev:=by
   rw[huk]at hye ⊢
   rcases hv.fl.tat hk with h3 | h3
   ·exfalso
    have hij:=hv.coh i k e (by rw[hv.fl.len];exact hi) (by rw[hv.fl.len];exact hk) (by rw[<- h1 i hi hix];exact he) (by rw[h3];exact hye)
    subst hij
    exact hx hix
   ·exact h3
  refine⟨λj hj hm=>?_,?_⟩
  ·rw[Ee (by rw[h.fl.len];exact hk)]
   split
   ·rename_i hh;subst hh;exact hvk.symm
   ·rename_i hh
    rcases mem_snoc.1 hm with hm | hm
    ·exact h1 j hj hm
    ·omega
  ·rw[Qs6 h.fl.len hk huk,h2]
   intro hh
   have hij:=hv.coh i k e (by rw[hv.fl.len];exact hi) (by rw[hv.fl.len];exact hk) (by rw[<- h1 i hi hix];exact he) (by rw[hvk,hh,<- huk];exact hye)
   subst hij
   exact hx hix
theorem OrI.done {ts us:List T3} {L X:List Int} {n:Nat} (hL:IsLab ts L) (h:OrI ts us L X n) (hall:∀i:Nat,i<ts.length->(i:Int)∈X) :
  (Coh us->Y8 ts=some us/\n=Q6j ts us)/\(¬ Coh us->Y8 ts=none):=by
 constructor
 ·intro hc
  have hg:Good ts us L:=⟨h.fl,hc,h.first⟩
  exact⟨Qa8 hL hg,(h.good us hg).2⟩
 ·intro hc
  refine Qa9 hL λvs hv=>hc ?_
  obtain⟨h1,_⟩:=h.good vs hv
  have:us=vs:=Qio (by rw[h.fl.len,hv.fl.len]) λi hi=>by
   rw[h.fl.len]at hi
   exact h1 i hi (hall i hi)
  rw[this]
  exact hv.coh
theorem mem_all {ts:List T3} {e:P2}:e∈Qc ts↔∃i:Nat,i<ts.length/\e∈Q6 (tAt ts i):=by
 unfold Qc
 rw[jm]
 constructor
 ·rintro⟨t,ht,he⟩
  obtain⟨i,hi⟩:=qr ht
  have hl:=(q8.1 hi).1
  rw[Qr hl]at hi
  obtain rfl:=Option.some.inj hi
  exact⟨i,hl,he⟩
 ·rintro⟨i,hl,he⟩
  exact⟨_,qb (Qr hl),he⟩
def Clo (ts:List T3):Prop:=∀e∈Qc ts,e.rev∈Qc ts
theorem Qhn {m:Mesh} (h:m.closed=true):m.check=0/\Clo m.tris:=by
 unfold Mesh.closed at h
 simp only[Bool.and_eq_true,decide_eq_true_eq]at h
 obtain⟨hz,hb⟩:=h
 refine⟨hz,λe he=>?_⟩
 have hne:¬ e∈m.border:=by rw[hb];simp
 rw[mem_border]at hne
 have h1:¬ m.use e.rev<m.use e:=λhh=>hne ⟨hz,he,hh⟩
 unfold Mesh.use at h1
 rw[if_pos hz,if_pos hz]at h1
 have h2:0<(Qc m.tris).count e:=List.count_pos_iff.2 he
 exact List.count_pos_iff.1 (by omega)
theorem Q6m {m:Mesh} (hz:m.check=0) (hc:Coh m.tris) (h:Clo m.tris):m.closed=true:=by
 unfold Mesh.closed
 simp only[Bool.and_eq_true,decide_eq_true_eq]
 refine⟨hz,?_⟩
 rw[List.eq_nil_iff_forall_not_mem]
 intro e he
 rw[mem_border]at he
 obtain⟨_,h1,h2⟩:=he
 unfold Mesh.use at h2
 rw[if_pos hz,if_pos hz]at h2
 have h3:=List.nodup_iff_count.1 (coh_iff.2 hc) e
 have h4:0<(Qc m.tris).count e.rev:=List.count_pos_iff.2 (h e h1)
 omega
def Whole (ts:List T3) (F:List Int):Prop:=∀i j:Nat,adjI ts i j->((i:Int)∈F↔(j:Int)∈F)
theorem flp_coh {ts:List T3} {F:List Int} (hw:Whole ts F) (h:Coh ts):Coh (flp ts F):=by
 intro i j e hi hj h1 h2
 rw[Y1]at hi hj
 have ha:adjI ts i j:=(Qh9 ts F).symm.adj (E8 (by rw[Y1];exact hi) (by rw[Y1];exact hj) h1 h2 rfl)
 have hij:=hw i j ha
 rw[Bl hi]at h1
 rw[Bl hj]at h2
 by_cases hF:(i:Int)∈F
 ·rw[if_pos hF,mem_edges_rev]at h1
  rw[if_pos (hij.1 hF),mem_edges_rev]at h2
  exact h i j e.rev hi hj h1 h2
 ·rw[if_neg hF]at h1
  rw[if_neg (λhh=>hF (hij.2 hh))]at h2
  exact h i j e hi hj h1 h2
theorem flp_clo {ts:List T3} {F:List Int} (hw:Whole ts F) (h:Clo ts):Clo (flp ts F):=by
 intro e he
 obtain⟨i,hi,h1⟩:=mem_all.1 he
 rw[Y1]at hi
 rw[Bl hi]at h1
 by_cases hF:(i:Int)∈F
 ·rw[if_pos hF,mem_edges_rev]at h1
  obtain⟨j,hj,h2⟩:=mem_all.1 (h _ (mem_all.2 ⟨i,hi,h1⟩))
  rw[rev_rev]at h2
  have ha:=E8 hi hj h1 h2 (Qa6 e)
  refine mem_all.2 ⟨j,by rw[Y1];exact hj,?_⟩
  rw[Bl hj,if_pos ((hw i j ha).1 hF),mem_edges_rev,rev_rev]
  exact h2
 ·rw[if_neg hF]at h1
  obtain⟨j,hj,h2⟩:=mem_all.1 (h _ (mem_all.2 ⟨i,hi,h1⟩))
  have ha:=E8 hi hj h1 h2 (Qa6 e).symm
  refine mem_all.2 ⟨j,by rw[Y1];exact hj,?_⟩
  rw[Bl hj,if_neg (λhh=>hF ((hw i j ha).2 hh))]
  exact h2
theorem Q40 {vs:List V3} {ts:List T3} {L:List Int} {n:Nat} {sh:List Int} (hs:sh∈Yk L n) {v:Int} (hv:v∈sh):v∈(Y9 vs ts (Yk L n)).flatten↔Y5 vs (Qq ts sh)<0:=by
 obtain⟨i,hi,hLi,rfl⟩:=shsK_mem.1 hs
 obtain⟨j,rfl,hj,hLj⟩:=mem_shK2.1 hv
 rw[List.mem_flatten]
 constructor
 ·rintro⟨sh',h1,h2⟩
  have hf:=qv.1 h1
  obtain⟨i',_,_,he⟩:=shsK_mem.1 hf.1
  have h3:=hf.2
  subst he
  obtain⟨j',hjj,_,hLj'⟩:=mem_shK2.1 h2
  obtain rfl:j=j':=by omega
  rw[hLj]at hLj'
  have:=Option.some.inj hLj'
  obtain rfl:i=i':=by omega
  simpa using h3
 ·intro h
  exact⟨_,qv.2 ⟨hs,by simpa using h⟩,hv⟩
theorem lab_sh {ts:List T3} {L:List Int} (hL:IsLab ts L) {i:Nat} (hi:i<ts.length):∃q:Nat,L[i]?=some (q:Int)/\L[q]?=some (q:Int)/\q<=i/\shK L q L.length∈Yk L ts.length/\(i:Int)∈shK L q L.length:=by
 have hv:L[i]?=some (L[i]'(by rw[hL.len];exact hi)):=q9 _
 generalize L[i]'(by rw[hL.len];exact hi)=v at hv
 obtain⟨v0,v1,hc⟩:=hL.con i v hv
 have hvv:=hL.conn hc
 rw[hv]at hvv
 have hvn:(v.toNat:Int)=v:=Int.toNat_of_nonneg v0
 have h1:L[v.toNat]?=some (v.toNat:Int):=by rw[hvn];exact hvv.symm
 refine⟨v.toNat,by rw[hvn];exact hv,h1,by omega,shsK_mem.2 ⟨v.toNat,hc.lt.2,h1,rfl⟩,mem_shK2.2 ⟨i,rfl,by rw[hL.len];exact hi,by rw[hvn];exact hv⟩⟩
theorem Qgh {vs:List V3} {ts:List T3} {L:List Int} (hL:IsLab ts L):Whole ts (Y9 vs ts (Yk L ts.length)).flatten:=by
 intro i j ha
 have hl:=ha.lt
 obtain⟨q,h1,h2,h3,h4,h5⟩:=lab_sh hL hl.1
 have hj:(j:Int)∈shK L q L.length:=mem_shK2.2 ⟨j,rfl,by rw[hL.len];exact hl.2,by rw[<- hL.adj i j ha];exact h1⟩
 rw[Q40 h4 h5,Q40 h4 hj]
theorem Qpe {vs:List V3} {ts:List T3} {L:List Int} (hL:IsLab ts L) {sh:List Int} (hs:sh∈Yk L ts.length) :
  0<=Y5 vs (Qq (flp ts (Y9 vs ts (Yk L ts.length)).flatten) sh):=by
 have hr:∀v∈sh,0<=v/\v.toNat<ts.length/\(v.toNat:Int)=v:=by
  intro v hv
  obtain⟨i,hi,hLi,rfl⟩:=shsK_mem.1 hs
  obtain⟨j,rfl,hj,hLj⟩:=mem_shK2.1 hv
  rw[hL.len]at hj
  omega
 by_cases hn:Y5 vs (Qq ts sh)<0
 ·have:Qq (flp ts (Y9 vs ts (Yk L ts.length)).flatten) sh=(Qq ts sh).map T3.rev:=by
   unfold Qq
   rw[List.map_map]
   refine jo λv hv=>?_
   obtain⟨h0,h1,h2⟩:=hr v hv
   rw[Bl h1,h2,if_pos ((Q40 hs hv).2 hn)];rfl
  rw[this,Qnz]
  omega
 ·have:Qq (flp ts (Y9 vs ts (Yk L ts.length)).flatten) sh=Qq ts sh:=by
   unfold Qq
   refine jo λv hv=>?_
   obtain⟨h0,h1,h2⟩:=hr v hv
   rw[Bl h1,h2,if_neg (λhh=>hn ((Q40 hs hv).1 hh))]
  rw[this]
  omega
structure OutOk (x:Mesh):Prop where
 z:x.check=0
 clo:x.closed=true
 coh:Ke x.tris=true
 vol:∀sh∈x.shells,0<=Y5 x.verts (Qq x.tris sh)
theorem outw_ok {m:Mesh} (hz:m.check=0) (hc:m.closed=true) (hh:Ke m.tris=true):OutOk m.outw:=by
 obtain⟨L,hL⟩:=Up m.tris
 have hR:m.shells=Yk L m.tris.length:=by unfold Mesh.shells;rw[if_pos hz,Ym hL,hL.len]
 have hz2:m.outw.check=0:=Qm3 hz _
 have hR2:m.outw.shells=Yk L m.tris.length:=by
  unfold Mesh.shells
  rw[if_pos hz2]
  show Yk (labOf (flp m.tris _)) (labOf (flp m.tris _)).length=_
  rw[(Qh9 m.tris _).labOf,Ym hL,hL.len]
 have hneg:m.negs=Y9 m.verts m.tris (Yk L m.tris.length):=by unfold Mesh.negs;rw[hR]
 have hw:Whole m.tris m.negs.flatten:=by rw[hneg];exact Qgh hL
 have hcoh:=flp_coh hw (cohB_iff.1 hh)
 refine⟨hz2,Q6m hz2 hcoh (flp_clo hw (Qhn hc).2),cohB_iff.2 hcoh,λsh hs=>?_⟩
 rw[hR2]at hs
 have:=Qpe (vs:=m.verts) hL hs
 rw[<- hneg]at this
 exact this
theorem Qga (m:Mesh):((Yu m).2.2≠0/\Yu m=(⟨[],[]⟩,0,(Yu m).2.2))∨(Yu m=(m.outw,(m.negs.length:Int),0)/\OutOk m.outw):=by
 unfold Yu
 by_cases hz:m.check=0
 case neg=>rw[if_pos hz];exact .inl ⟨hz,rfl⟩
 rw[if_neg (by simpa using hz)]
 by_cases hc:m.closed=false
 case pos=>rw[if_pos hc];exact .inl ⟨by simp,rfl⟩
 rw[if_neg hc]
 by_cases hh:Ke m.tris=false
 case pos=>rw[if_pos hh];exact .inl ⟨by simp,rfl⟩
 rw[if_neg hh]
 exact .inr ⟨rfl,outw_ok hz (by simpa using hc) (by simpa using hh)⟩
theorem Qpi {m:Mesh} (hz:m.check=0) (h:Y8 m.tris=none):Zz m=(⟨[],[]⟩,0,13):=by
 unfold Zz;simp only[if_neg (show ¬ m.check≠0 by simpa using hz),h]
theorem oriR_ok {m:Mesh} (hz:m.check=0) {us:List T3} (h:Y8 m.tris=some us):Zz m=((⟨m.verts,us⟩:Mesh),(Q6j m.tris us:Int),(0:Int)):=by
 unfold Zz;simp only[if_neg (show ¬ m.check≠0 by simpa using hz),h]
theorem p2_ext {x y:P2} (h1:x.x=y.x) (h2:x.y=y.y):x=y:=by cases x;cases y;simp_all
def Mesh.coh (m:Mesh):Bool:=decide (m.check=0) && Ke m.tris
def Q2q (P:Program) (f:FuncId):Prop:=∀m:Mesh,CallIs P f [m.enc] (.b m.coh)
section
variable {P:Program} (hm:P.follows .mixedOrders=true)
include hm
theorem B3 {f fc fh:FuncId} (hf:Qa P f (L0l.c fc fh) L0l.r L0l.n) (hc:Ys P fc) (hh:Qu5 P fh):Q2q P f:=by
 intro m
 refine PureC.is (Q8 hm hf (qh rfl) ?_) rfl
 unfold L0l.c
 simp[go_sem,Mesh.enc,Mesh.cs]
 refine Q4 (hc m) ?_
 by_cases h:m.check=0
 ·have hl:=(Mesh.check_zero.1 h).2.1
  simp[go_sem,h]
  refine Q4 (hh m.tris (by omega)) ?_
  simp[go_sem,L0l.r,Mesh.coh,h]
 ·have h':(m.check == 0)=false:=by simpa using h
  simp[go_sem,h,h',L0l.r,Mesh.coh]
end
theorem Qg9 {l k:List Int} (hl:l.Nodup) (hk:k.Nodup) (h:∀v,v∈l↔v∈k):l.Perm k:=by
 rw[List.perm_iff_count]
 intro v
 have c:∀{l:List Int},l.Nodup->l.count v=if v∈l then 1 else 0:=λ{l} hl=>by
  by_cases he:v∈l
  ·rw[if_pos he]
   have h1:=List.count_pos_iff.2 he
   have h2:=List.nodup_iff_count.1 hl v
   omega
  ·rw[if_neg he];exact List.count_eq_zero.2 he
 rw[c hl,c hk]
 by_cases hv:v∈l
 ·rw[if_pos hv,if_pos ((h v).1 hv)]
 ·rw[if_neg hv,if_neg (λhh=>hv ((h v).2 hh))]
def Mesh.fillM (m:Mesh):Mesh:=⟨m.verts,m.tris++m.loops.1.flatMap Kj⟩
theorem Qdm {m:Mesh} (h:m.loops.2=0):m.check=0/\m.simple m.border=true/\m.loops.1=Kh m.border:=by
 unfold Mesh.loops at h ⊢
 by_cases hz:m.check=0
 ·rw[if_pos hz]at h ⊢
  by_cases hs:m.simple m.border=true
  ·rw[if_pos hs];exact⟨hz,hs,rfl⟩
  ·rw[if_neg hs]at h;simp at h
 ·rw[if_neg hz]at h;exact absurd h hz
def Zc (m:Mesh):Mesh × Int × Int:=if m.loops.2=0 then (if m.fillM.tris.length<=4096 then (m.fillM,m.loops.1.length,0) else (Zb,0,2)) else (Zb,0,m.loops.2)
def Q0s (r:Mesh × Int × Int):V:=.t [r.1.enc,.i .i64 r.2.1,.i .i64 r.2.2]
def Qu0 (P:Program) (f:FuncId):Prop:=∀m:Mesh,CallIs P f [m.enc] (Q0s (Zc m))
theorem Q8u {m:Mesh} (h:m.loops.2=0):(m.loops.1.map List.length).sum=m.border.length:=by
 obtain⟨hz,hs,hls⟩:=Qdm h
 have hL:=Q8v hz hs
 have hx:=Iu hs (J3 m)
 have hp:=Qg9 hL.nodup hx hL.mem
 rw[hls,<- List.length_flatten,hp.length_eq,List.length_map]
theorem Mesh.v_valid {m:Mesh} (h:Kn m.verts=true) {i:Int} (hi:i<m.verts.length):(m.v i).valid=true:=by
 unfold Mesh.v
 cases hp:m.verts[i.toNat]? with
 | none=>rfl
 | some p=>exact Qcj h hp
end Go.Abs
