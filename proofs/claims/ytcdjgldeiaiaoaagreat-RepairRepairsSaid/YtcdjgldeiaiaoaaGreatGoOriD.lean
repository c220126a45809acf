/- Part of the library on which the proof stands: an abstract machine, its values and its soundness against the model; or what functions of the program do to such values. -/
import Derived.Test.YtcdjgldeiaiaoaaGreatGoDet
import Derived.Test.YtcdjgldeiaiaoaaGreatGoToB
import Derived.Test.YtcdjgldeiaiaoaaGreatGoTal
import Derived.Test.YtcdjgldeiaiaoaaGreatGoClone
set_option linter.unusedVariables false
set_option linter.unusedSimpArgs false
namespace Go.Abs
def Qk (ts:List T3) (sh:List Int):List T3:=sh.map λv=>tAt ts v.toNat
def flp (ts:List T3) (F:List Int):List T3:=(List.range ts.length).map λ(i:Nat)=>if (i:Int)∈F then (tAt ts i).rev else tAt ts i
theorem Zj (ts:List T3) (F:List Int):(flp ts F).length=ts.length:=by simp[flp]
theorem U4 {ts:List T3} {F:List Int} {i:Nat} (h:i<ts.length):(flp ts F)[i]?=some (if (i:Int)∈F then (tAt ts i).rev else tAt ts i):=by
 unfold flp
 rw[List.getElem?_map,List.getElem?_range h];rfl
theorem Bc {ts:List T3} {F:List Int} {i:Nat} (h:i<ts.length):tAt (flp ts F) i=if (i:Int)∈F then (tAt ts i).rev else tAt ts i:=by
 have:=U4 (F:=F) h
 unfold tAt at this ⊢
 rw[this];rfl
theorem flp_nil (ts:List T3):flp ts []=ts:=by
 apply List.ext_getElem?
 intro i
 by_cases h:i<ts.length
 ·rw[U4 h,Ql h];simp
 ·rw[List.getElem?_eq_none (by rw[Zj];omega),List.getElem?_eq_none (by omega)]
theorem flp_set {ts:List T3} {F:List Int} {v:Nat} (hv:v<ts.length):(flp ts F).set v (tAt ts v).rev=flp ts (F++[(v:Int)]):=by
 apply List.ext_getElem?
 intro i
 by_cases h:i<ts.length
 ·rw[U4 h]
  by_cases hi:v=i
  ·subst hi
   rw[List.getElem?_set_self (by rw[Zj];exact hv)]
   simp
  ·rw[List.getElem?_set_ne hi,U4 h]
   have:((i:Int)∈F++[(v:Int)])↔(i:Int)∈F:=by
    rw[List.mem_append,List.mem_singleton]
    constructor
    ·rintro (h | h)
     ·exact h
     ·omega
    ·exact .inl
   simp only[this]
 ·rw[List.getElem?_eq_none (by rw[List.length_set,Zj];omega),List.getElem?_eq_none (by rw[Zj];omega)]
theorem flp_Fl (ts:List T3) (F:List Int):Fl ts (flp ts F) where
 len:=Zj ts F
 at_ i t u h1 h2:=by
  have hi:=(List.getElem?_eq_some_iff.1 h1).1
  rw[U4 hi]at h2
  rw[Ql hi]at h1
  obtain rfl:=Option.some.inj h1
  have h2:=Option.some.inj h2
  split at h2
  ·exact .inr h2.symm
  ·exact .inl h2.symm
def Za (vs:List V3) (ts:List T3) (shs:List (List Int)):List (List Int):=shs.filter λsh=>decide (Y2 vs (Qk ts sh)<0)
theorem negsOf_snoc (vs:List V3) (ts:List T3) (shs:List (List Int)) (sh:List Int):Za vs ts (shs++[sh])=Za vs ts shs++if Y2 vs (Qk ts sh)<0 then [sh] else []:=by
 unfold Za
 rw[List.filter_append]
 by_cases h:Y2 vs (Qk ts sh)<0<;>simp[h]
theorem negsOf_len (vs:List V3) (ts:List T3) (shs:List (List Int)):(Za vs ts shs).length<=shs.length:=List.length_filter_le _ _
theorem E9 {α:Type} (p:List α->Bool):∀l:List (List α),(l.filter p).flatten.Sublist l.flatten
 | []=>List.Sublist.refl _
 | a::l=>by
   rw[List.filter_cons]
   split
   ·rw[List.flatten_cons,List.flatten_cons]
    exact(List.Sublist.refl a).append (E9 p l)
   ·rw[List.flatten_cons]
    exact(E9 p l).trans (List.sublist_append_right _ _)
theorem negs_nodup {vs:List V3} {ts:List T3} {shs:List (List Int)} (h:shs.flatten.Nodup) {k:Nat} {sh:List Int} (hp:shs[k]?=some sh):((Za vs ts (shs.take k)).flatten++sh).Nodup:=by
 have hlt:=(List.getElem?_eq_some_iff.1 hp).1
 have h1:=List.take_append_drop k shs
 rw[List.drop_eq_getElem_cons hlt,(List.getElem?_eq_some_iff.1 hp).2]at h1
 rw[<- h1,List.flatten_append,List.flatten_cons,<- List.append_assoc]at h
 have h2:=(List.nodup_append.1 h).1
 exact h2.sublist ((E9 _ _).append (List.Sublist.refl sh))
noncomputable def Mesh.negs (m:Mesh):List (List Int):=Za m.verts m.tris m.shells
noncomputable def Mesh.outw (m:Mesh):Mesh:=⟨m.verts,flp m.tris m.negs.flatten⟩
def Kx (p:Mesh × Int × Int):V:=.t [p.1.enc,.i .i64 p.2.1,.i .i64 p.2.2]
noncomputable def Zs (m:Mesh):Mesh × Int × Int :=
 if m.check≠0 then (⟨[],[]⟩,0,m.check) else if m.closed=false then (⟨[],[]⟩,0,12) else if Yv m.tris=false then (⟨[],[]⟩,0,13) else (m.outw,m.negs.length,0)
def Wn (P:Program) (f:FuncId):Prop:=∀m:Mesh,CallIs P f [m.enc] (Kx (Zs m))
theorem Jy (e:Int):Le (.t [.a [.nil,.nil],.i .i64 0,.i .i64 e]) (Kx (⟨[],[]⟩,0,e)) :=
 .inr ⟨_,_,rfl,rfl,.inr ⟨_,_,rfl,rfl,Le0.nil 3,Le0.nil 3,trivial⟩,Le1.refl _,Le1.refl _,trivial⟩
structure ShOk (n:Nat) (shs:List (List Int)):Prop where
 num:shs.length<=n
 len:∀sh∈shs,sh.length<=n
 mem:∀sh∈shs,∀v∈sh,0<=v/\v<n
 nodup:shs.flatten.Nodup
theorem shK_nodup2 (L:List Int) (i k:Nat):(shK L i k).Nodup:=by
 have hsh:(shK L i k).Pairwise λa b=>a<b:=by
  unfold shK
  rw[List.pairwise_map]
  have h1:(List.range k).Pairwise (λa b:Nat=>a<b):=List.pairwise_lt_range
  exact(h1.filter _).imp λ{a b:Nat} (h:a<b)=>by show (a:Int)<(b:Int);omega
 exact hsh.imp λh=>by omega
theorem mem_shK2 {L:List Int} {i k:Nat} {v:Int}:v∈shK L i k↔∃j:Nat,v=(j:Int)/\j<k/\L[j]?=some (i:Int):=by
 unfold shK
 rw[List.mem_map]
 constructor
 ·rintro⟨j,hj,rfl⟩
  have hf:=List.mem_filter.1 hj
  exact⟨j,rfl,List.mem_range.1 hf.1,by simpa using hf.2⟩
 ·rintro⟨j,rfl,h1,h2⟩
  exact⟨j,List.mem_filter.2 ⟨List.mem_range.2 h1,by simpa using h2⟩,rfl⟩
theorem shsK_mem {L:List Int} {k:Nat} {sh:List Int}:sh∈Zl L k↔∃i:Nat,i<k/\L[i]?=some (i:Int)/\sh=shK L i L.length:=by
 unfold Zl
 rw[List.mem_map]
 constructor
 ·rintro⟨i,hi,rfl⟩
  have hf:=List.mem_filter.1 hi
  exact⟨i,List.mem_range.1 hf.1,by simpa using hf.2,rfl⟩
 ·rintro⟨i,h1,h2,rfl⟩
  exact⟨i,List.mem_filter.2 ⟨List.mem_range.2 h1,by simpa using h2⟩,rfl⟩
theorem shsK_nodup (L:List Int) (k:Nat):(Zl L k).flatten.Nodup:=by
 induction k with
 | zero=>simp[Zl]
 | succ k ih =>
   rw[shsK_succ]
   split
   ·rw[List.flatten_append,List.nodup_append]
    refine⟨ih,by simpa using shK_nodup2 L k L.length,λa ha b hb=>?_⟩
    simp at hb
    obtain⟨sh,hs,has⟩:=List.mem_flatten.1 ha
    obtain⟨i,hi,_,rfl⟩:=shsK_mem.1 hs
    obtain⟨j,rfl,_,hj⟩:=mem_shK2.1 has
    rintro rfl
    obtain⟨j',hjj,_,hj'⟩:=mem_shK2.1 hb
    obtain rfl:j=j':=by omega
    rw[hj]at hj'
    have:=Option.some.inj hj'
    omega
   ·simpa using ih
theorem J3 {m:Mesh} (hz:m.check=0):ShOk m.tris.length m.shells:=by
 obtain⟨L,hL⟩:=Uw m.tris
 have hR:m.shells=Zl L m.tris.length:=by unfold Mesh.shells;rw[if_pos hz,Yk hL,hL.len]
 rw[hR]
 refine⟨?_,λsh hs=>?_,λsh hs v hv=>?_,shsK_nodup _ _⟩
 ·unfold Zl
  rw[List.length_map]
  have:=List.length_filter_le (λ(i:Nat)=>decide (L[i]?=some (i:Int))) (List.range m.tris.length)
  rwa [List.length_range]at this
 ·obtain⟨i,_,_,rfl⟩:=shsK_mem.1 hs
  unfold shK
  rw[List.length_map]
  have:=List.length_filter_le (λ(j:Nat)=>decide (L[j]?=some (i:Int))) (List.range L.length)
  rw[List.length_range,hL.len]at this
  rw[hL.len]
  omega
 ·obtain⟨i,_,_,rfl⟩:=shsK_mem.1 hs
  obtain⟨j,rfl,h1,_⟩:=mem_shK2.1 hv
  rw[hL.len]at h1
  omega
theorem tAt_ok {n:Nat} {ts:List T3} (h:Uj n ts=true) {i:Nat} (hi:i<ts.length):(tAt ts i).ok n=true:=Bm h (Ql hi)
theorem U0 {m:Mesh} (hz:m.check=0) {sh:List Int} (hl:sh.length<=m.tris.length) (hv:∀v∈sh,0<=v/\v<m.tris.length):(Mesh.mk m.verts (Qk m.tris sh)).check=0:=by
 obtain⟨z1,z2,z3,z4⟩:=Mesh.check_zero.1 hz
 refine Mesh.check_zero.2 ⟨z1,by simp[Qk];omega,z3,?_⟩
 simp only[Uj,List.all_eq_true,Qk,List.mem_map]
 rintro t ⟨v,hvs,rfl⟩
 have:=hv v hvs
 exact tAt_ok z4 (by omega)
theorem T3.rev_ok {n:Nat} {t:T3} (h:t.ok n=true):t.rev.ok n=true:=by
 obtain⟨a1,a2,b1,b2,c1,c2⟩:=T3.ok_iff.1 h
 exact T3.ok_iff.2 ⟨a1,a2,c1,c2,b1,b2⟩
theorem flp_check {m:Mesh} (hz:m.check=0) (F:List Int):(Mesh.mk m.verts (flp m.tris F)).check=0:=by
 obtain⟨z1,z2,z3,z4⟩:=Mesh.check_zero.1 hz
 refine Mesh.check_zero.2 ⟨z1,by rw[Zj];exact z2,z3,?_⟩
 simp only[Uj,List.all_eq_true]
 intro t ht
 obtain⟨i,hi⟩:=List.getElem?_of_mem ht
 have hil:=(List.getElem?_eq_some_iff.1 hi).1
 rw[Zj]at hil
 rw[U4 hil]at hi
 obtain rfl:=Option.some.inj hi
 have:=tAt_ok z4 hil
 split
 ·exact T3.rev_ok this
 ·exact this
end Go.Abs
set_option linter.unusedVariables false
set_option linter.unusedSimpArgs false
namespace Go.Abs
theorem und_two {a b:P2} (h:a.und=b.und):a=b∨a=b.rev:=by
 cases a;cases b
 simp only[P2.und,P2.rev,P2.mk.injEq]at h ⊢
 omega
theorem edgesOf_nodup (t:T3):(Q2 t).Nodup:=by
 have h0:Q2 t=(Kp t).filter λe=>decide (e.x≠e.y):=rfl
 rw[h0,List.nodup_iff_pairwise_ne,List.pairwise_filter]
 unfold Kp
 simp only[List.pairwise_cons,List.mem_cons,List.not_mem_nil,or_false,decide_eq_true_eq,ne_eq,false_implies,implies_true,List.Pairwise.nil,and_true,P2.mk.injEq]
 refine⟨λx hx h1 h2=>?_,λx hx h1 h2=>?_⟩
 ·rcases hx with rfl | rfl
  ·simp only[P2.mk.injEq];simp only at h1 h2;omega
  ·simp only[P2.mk.injEq];simp only at h1 h2;omega
 ·subst hx
  simp only[P2.mk.injEq];simp only at h1 h2;omega
def Coh (ts:List T3):Prop:=∀(i j:Nat) (e:P2),i<ts.length->j<ts.length->e∈Q2 (tAt ts i)->e∈Q2 (tAt ts j)->i=j
theorem tAt_el {ts:List T3} {i:Nat} (h:i<ts.length):ts[i]=tAt ts i:=by
 have:=Ql h
 rw[List.getElem?_eq_getElem h]at this
 exact Option.some.inj this
theorem coh_iff {ts:List T3}:(Q8 ts).Nodup↔Coh ts:=by
 have h0:(Q8 ts).Nodup↔(∀t∈ts,(Q2 t).Nodup)/\ts.Pairwise λs t=>∀x∈Q2 s,∀y∈Q2 t,x≠y:=List.pairwise_flatMap
 rw[h0,List.pairwise_iff_getElem]
 constructor
 ·rintro⟨_,h⟩ i j e hi hj h1 h2
  rcases Nat.lt_trichotomy i j with hh | hh | hh
  ·exact absurd rfl (h i j hi hj hh e (by rw[tAt_el hi];exact h1) e (by rw[tAt_el hj];exact h2))
  ·exact hh
  ·exact absurd rfl (h j i hj hi hh e (by rw[tAt_el hj];exact h2) e (by rw[tAt_el hi];exact h1))
 ·intro h
  refine⟨λt _=>edgesOf_nodup t,λi j hi hj hij x hx y hy=>?_⟩
  rintro rfl
  rw[tAt_el hi]at hx
  rw[tAt_el hj]at hy
  have:=h i j x hi hj hx hy
  omega
theorem cohB_iff {ts:List T3}:Yv ts=true↔Coh ts:=by unfold Yv;rw[decide_eq_true_eq];exact coh_iff
theorem Fl.tat {ts us:List T3} (h:Fl ts us) {i:Nat} (hi:i<ts.length):tAt us i=tAt ts i∨tAt us i=(tAt ts i).rev :=
 h.at_ i _ _ (Ql hi) (Ql (by rw[h.len];exact hi))
theorem tAt_ext {us vs:List T3} (hl:us.length=vs.length) (h:∀i,i<us.length->tAt us i=tAt vs i):us=vs:=by
 apply List.ext_getElem?
 intro i
 by_cases hi:i<us.length
 ·rw[Ql hi,Ql (by omega),h i hi]
 ·rw[List.getElem?_eq_none (by omega),List.getElem?_eq_none (by omega)]
theorem adj_edge {ts:List T3} {i j:Nat} (h:adjI ts i j):i<ts.length/\j<ts.length/\∃a∈Q2 (tAt ts i),∃b∈Q2 (tAt ts j),a.und=b.und:=by
 have hl:=h.lt
 obtain⟨s,t,hs,ht,a,ha,b,hb,hab⟩:=h
 rw[Ql hl.1]at hs
 rw[Ql hl.2]at ht
 obtain rfl:=Option.some.inj hs
 obtain rfl:=Option.some.inj ht
 exact⟨hl.1,hl.2,a,ha,b,hb,hab⟩
theorem Wm {ts:List T3} {i j:Nat} (hi:i<ts.length) (hj:j<ts.length) {a b:P2} (ha:a∈Q2 (tAt ts i)) (hb:b∈Q2 (tAt ts j)) (h:a.und=b.und):adjI ts i j :=
 ⟨_,_,Ql hi,Ql hj,a,ha,b,hb,h⟩
structure Good (ts us:List T3) (L:List Int):Prop where
 fl:Fl ts us
 coh:Coh us
 first:∀i:Nat,i<ts.length->L[i]?=some (i:Int)->tAt us i=tAt ts i
theorem Good.step {ts us vs:List T3} {L:List Int} (h:Good ts us L) (k:Good ts vs L) {i j:Nat} (ha:adjI ts i j) (he:tAt us i=tAt vs i):tAt us j=tAt vs j:=by
 obtain⟨hi,hj,a,haa,b,hbb,hab⟩:=adj_edge (h.fl.adj ha)
 rw[h.fl.len]at hi hj
 by_cases hij:i=j
 ·subst hij;exact he
 refine Decidable.byContradiction λhne=>?_
 have hrev:tAt vs j=(tAt us j).rev:=by
  rcases h.fl.tat hj with h1 | h1<;>rcases k.fl.tat hj with h2 | h2
  ·exact absurd (h1.trans h2.symm) hne
  ·rw[h1,h2]
  ·rw[h1,h2];rfl
  ·exact absurd (h1.trans h2.symm) hne
 rcases und_two hab with rfl | hab
 ·exact hij (h.coh i j a (by rw[h.fl.len];exact hi) (by rw[h.fl.len];exact hj) haa hbb)
 ·refine hij (k.coh i j a (by rw[k.fl.len];exact hi) (by rw[k.fl.len];exact hj) (by rw[<- he];exact haa) ?_)
  rw[hrev,mem_edges_rev,hab,rev_rev]
  exact hbb
theorem Good.eq {ts us vs:List T3} {L:List Int} (hL:IsLab ts L) (h:Good ts us L) (k:Good ts vs L):us=vs:=by
 refine tAt_ext (by rw[h.fl.len,k.fl.len]) λj hj=>?_
 rw[h.fl.len]at hj
 have hv:L[j]?=some (L[j]'(by rw[hL.len];exact hj)):=List.getElem?_eq_getElem _
 generalize L[j]'(by rw[hL.len];exact hj)=v at hv
 obtain⟨v0,v1,hc⟩:=hL.con j v hv
 have hvv:=hL.conn hc
 rw[hv]at hvv
 have hc':=hc.symm
 have hvl:=hc'.lt.1
 have hLv:L[v.toNat]?=some (v.toNat:Int):=by rw[<- hvv];congr 1;omega
 have h0:tAt us v.toNat=tAt vs v.toNat:=by rw[h.first _ hvl hLv,k.first _ hvl hLv]
 clear hv hvv hc hj v1
 induction hc' with
 | refl _=>exact h0
 | tail _ h2 ih=>exact h.step k h2 ih
open Classical in
noncomputable def Y8 (ts:List T3):Option (List T3):=if h:∃us,Good ts us (labOf ts) then some (Classical.choose h) else none
theorem orientL_some {ts us:List T3} {L:List Int} (hL:IsLab ts L) (h:Good ts us L):Y8 ts=some us:=by
 unfold Y8
 rw[Yk hL]
 have hex:∃us,Good ts us L:=⟨us,h⟩
 rw[dif_pos hex]
 congr 1
 exact(Classical.choose_spec hex).eq hL h
theorem orientL_none {ts:List T3} {L:List Int} (hL:IsLab ts L) (h:∀us,¬ Good ts us L):Y8 ts=none:=by
 unfold Y8
 rw[Yk hL,dif_neg]
 rintro⟨us,hu⟩
 exact h us hu
theorem orientL_good {ts us:List T3} {L:List Int} (hL:IsLab ts L) (h:Y8 ts=some us):Good ts us L:=by
 unfold Y8 at h
 rw[Yk hL]at h
 split at h
 ·rename_i hex
  obtain rfl:=Option.some.inj h
  exact Classical.choose_spec hex
 ·simp at h
def difN (ts us:List T3):Nat:=((List.range ts.length).filter λi=>decide (tAt us i≠tAt ts i)).length
noncomputable def Zp (m:Mesh):Mesh × Int × Int :=
 if m.check≠0 then (⟨[],[]⟩,0,m.check) else match Y8 m.tris with
 | none=>(⟨[],[]⟩,0,13)
 | some us=>(⟨m.verts,us⟩,difN m.tris us,0)
def Es (P:Program) (f:FuncId):Prop:=∀m:Mesh,CallIs P f [m.enc] (Kx (Zp m))
theorem Ek {us:List T3} {j:Nat} (hj:j<us.length) (i:Nat) (t:T3):tAt (us.set j t) i=if i=j then t else tAt us i:=by
 unfold tAt
 by_cases h:i=j
 ·subst h;rw[List.getElem?_set_self hj,if_pos rfl];rfl
 ·rw[List.getElem?_set_ne (λhh=>h hh.symm),if_neg h]
theorem Fl.set {ts us:List T3} (h:Fl ts us) {j:Nat} (hj:j<ts.length):Fl ts (us.set j (tAt us j).rev) where
 len:=by rw[List.length_set,h.len]
 at_ i t u h1 h2:=by
  have hi:=(List.getElem?_eq_some_iff.1 h1).1
  have hju:j<us.length:=by rw[h.len];exact hj
  rw[Ql (by rw[List.length_set,h.len];exact hi)]at h2
  rw[Ql hi]at h1
  obtain rfl:=Option.some.inj h1
  obtain rfl:=Option.some.inj h2
  rw[Ek hju]
  split
  ·rename_i hh;subst hh
   rcases h.tat hj with h3 | h3
   ·exact .inr (by rw[h3])
   ·exact .inl (by rw[h3];rfl)
  ·exact h.tat hi
theorem Fl.refl (ts:List T3):Fl ts ts:=⟨rfl,λi t u h1 h2=>.inl (by rw[h1]at h2;exact(Option.some.inj h2).symm)⟩
theorem difN_self (ts:List T3):difN ts ts=0:=by unfold difN;simp
theorem filter_one {n j:Nat} (hj:j<n) {p q:Nat->Bool} (hq:∀i,i<n->q i=(if i=j then true else p i)) (hp:p j=false):((List.range n).filter q).length=((List.range n).filter p).length+1:=by
 induction n with
 | zero=>omega
 | succ n ih =>
   rw[List.range_succ,List.filter_append,List.filter_append,List.length_append,List.length_append]
   by_cases h:j=n
   ·subst h
    have h1:(List.range j).filter q=(List.range j).filter p:=by
     refine List.filter_congr λi hi=>?_
     have:=List.mem_range.1 hi
     rw[hq i (by omega),if_neg (by omega)]
    rw[h1]
    have h2:=hq j (by omega)
    rw[if_pos rfl]at h2
    simp[h2,hp]
   ·have h1:=ih (by omega) λi hi=>hq i (by omega)
    have h2:=hq n (by omega)
    rw[if_neg (λhh=>h hh.symm)]at h2
    rw[h1]
    by_cases h3:p n=true<;>simp[h2,h3]<;>omega
theorem difN_set {ts us:List T3} (hl:us.length=ts.length) {j:Nat} (hj:j<ts.length) (he:tAt us j=tAt ts j) {t:T3} (hne:t≠tAt ts j):difN ts (us.set j t)=difN ts us+1:=by
 unfold difN
 refine filter_one hj (λi hi=>?_) (by simp[he])
 rw[Ek (by rw[hl];exact hj)]
 by_cases h:i=j
 ·subst h;simp[hne]
 ·simp[h]
structure OrI (ts us:List T3) (L X:List Int) (n:Nat):Prop where
 fl:Fl ts us
 new:∀i:Nat,i<ts.length->(i:Int)∉X->tAt us i=tAt ts i
 first:∀i:Nat,i<ts.length->L[i]?=some (i:Int)->tAt us i=tAt ts i
 num:n<=X.length
 good:∀vs,Good ts vs L->(∀i:Nat,i<ts.length->(i:Int)∈X->tAt us i=tAt vs i)/\n=difN ts us
theorem OrI.start (ts:List T3) (L:List Int):OrI ts ts L [] 0 :=
 ⟨Fl.refl ts,λ_ _ _=>rfl,λ_ _ _=>rfl,Nat.zero_le _,λvs h=>⟨by simp,by rw[difN_self]⟩⟩
theorem mem_snoc {X:List Int} {k i:Int}:i∈X++[k]↔i∈X∨i=k:=by simp
theorem OrI.top {ts us:List T3} {L X:List Int} {n:Nat} (h:OrI ts us L X n) {k:Nat} (hk:k<ts.length) (hx:(k:Int)∉X) (hL:L[k]?=some (k:Int)):OrI ts us L (X++[(k:Int)]) n where
 fl:=h.fl
 new i hi hn:=h.new i hi λhh=>hn (mem_snoc.2 (.inl hh))
 first:=h.first
 num:=by have:=h.num;simp;omega
 good vs hv:=by
  obtain⟨h1,h2⟩:=h.good vs hv
  refine⟨λi hi hm=>?_,h2⟩
  rcases mem_snoc.1 hm with hm | hm
  ·exact h1 i hi hm
  ·obtain rfl:i=k:=by omega
   rw[h.first i hi hL,hv.first i hi hL]
theorem OrI.keep {ts us:List T3} {L X:List Int} {n:Nat} (h:OrI ts us L X n) {i k:Nat} (hi:i<ts.length) (hk:k<ts.length) (hix:(i:Int)∈X) (hx:(k:Int)∉X) {e:P2} (he:e∈Q2 (tAt us i)) (hno:e∉Q2 (tAt us k))
  {b:P2} (hb:b∈Q2 (tAt ts k)) (hbe:b.und=e.und):OrI ts us L (X++[(k:Int)]) n where
 fl:=h.fl
 new i hi hn:=h.new i hi λhh=>hn (mem_snoc.2 (.inl hh))
 first:=h.first
 num:=by have:=h.num;simp;omega
 good vs hv:=by
  obtain⟨h1,h2⟩:=h.good vs hv
  refine⟨λj hj hm=>?_,h2⟩
  rcases mem_snoc.1 hm with hm | hm
  ·exact h1 j hj hm
  ·obtain rfl:j=k:=by omega
   have huk:=h.new j hj hx
   rw[huk]at hno ⊢
   rcases hv.fl.tat hj with h3 | h3
   ·exact h3.symm
   ·exfalso
    rcases und_two hbe with rfl | rfl
    ·exact hno hb
    ·have hij:=hv.coh i j e (by rw[hv.fl.len];exact hi) (by rw[hv.fl.len];exact hj) (by rw[<- h1 i hi hix];exact he) (by rw[h3,mem_edges_rev];exact hb)
     subst hij
     exact hx hix
theorem OrI.turn {ts us:List T3} {L X:List Int} {n:Nat} (h:OrI ts us L X n) {i k:Nat} (hi:i<ts.length) (hk:k<ts.length) (hix:(i:Int)∈X) (hx:(k:Int)∉X) (hL:L[k]? ≠ some (k:Int)) {e:P2} (he:e∈Q2 (tAt us i)) (hye:e∈Q2 (tAt us k)) :
  OrI ts (us.set k (tAt us k).rev) L (X++[(k:Int)]) (n+1) where
 fl:=h.fl.set hk
 new j hj hn:=by
  rw[Ek (by rw[h.fl.len];exact hk),if_neg (λhh=>hn (mem_snoc.2 (.inr (by omega))))]
  exact h.new j hj λhh=>hn (mem_snoc.2 (.inl hh))
 first j hj hLj:=by
  rw[Ek (by rw[h.fl.len];exact hk),if_neg (by rintro rfl;exact hL hLj)]
  exact h.first j hj hLj
 num:=by have:=h.num;simp;omega
 good vs hv:=by
  obtain⟨h1,h2⟩:=h.good vs hv
  have huk:=h.new k hk hx
  have hvk:tAt vs k=(tAt us k).rev:=by
   rw[huk]at hye ⊢
   rcases hv.fl.tat hk with h3 | h3
   ·exfalso
    have hij:=hv.coh i k e (by rw[hv.fl.len];exact hi) (by rw[hv.fl.len];exact hk) (by rw[<- h1 i hi hix];exact he) (by rw[h3];exact hye)
    subst hij
    exact hx hix
   ·exact h3
  refine⟨λj hj hm=>?_,?_⟩
  ·rw[Ek (by rw[h.fl.len];exact hk)]
   split
   ·rename_i hh;subst hh;exact hvk.symm
   ·rename_i hh
    rcases mem_snoc.1 hm with hm | hm
    ·exact h1 j hj hm
    ·omega
  ·rw[difN_set h.fl.len hk huk,h2]
   intro hh
   have hij:=hv.coh i k e (by rw[hv.fl.len];exact hi) (by rw[hv.fl.len];exact hk) (by rw[<- h1 i hi hix];exact he) (by rw[hvk,hh,<- huk];exact hye)
   subst hij
   exact hx hix
theorem OrI.done {ts us:List T3} {L X:List Int} {n:Nat} (hL:IsLab ts L) (h:OrI ts us L X n) (hall:∀i:Nat,i<ts.length->(i:Int)∈X) :
  (Coh us->Y8 ts=some us/\n=difN ts us)/\(¬ Coh us->Y8 ts=none):=by
 constructor
 ·intro hc
  have hg:Good ts us L:=⟨h.fl,hc,h.first⟩
  exact⟨orientL_some hL hg,(h.good us hg).2⟩
 ·intro hc
  refine orientL_none hL λvs hv=>hc ?_
  obtain⟨h1,_⟩:=h.good vs hv
  have:us=vs:=tAt_ext (by rw[h.fl.len,hv.fl.len]) λi hi=>by
   rw[h.fl.len]at hi
   exact h1 i hi (hall i hi)
  rw[this]
  exact hv.coh
end Go.Abs
set_option linter.unusedVariables false
set_option linter.unusedSimpArgs false
namespace Go.Abs
theorem mem_all {ts:List T3} {e:P2}:e∈Q8 ts↔∃i:Nat,i<ts.length/\e∈Q2 (tAt ts i):=by
 unfold Q8
 rw[List.mem_flatMap]
 constructor
 ·rintro⟨t,ht,he⟩
  obtain⟨i,hi⟩:=List.getElem?_of_mem ht
  have hl:=(List.getElem?_eq_some_iff.1 hi).1
  rw[Ql hl]at hi
  obtain rfl:=Option.some.inj hi
  exact⟨i,hl,he⟩
 ·rintro⟨i,hl,he⟩
  exact⟨_,List.mem_of_getElem? (Ql hl),he⟩
def Clo (ts:List T3):Prop:=∀e∈Q8 ts,e.rev∈Q8 ts
theorem closed_clo {m:Mesh} (h:m.closed=true):m.check=0/\Clo m.tris:=by
 unfold Mesh.closed at h
 simp only[Bool.and_eq_true,decide_eq_true_eq]at h
 obtain⟨hz,hb⟩:=h
 refine⟨hz,λe he=>?_⟩
 have hne:¬ e∈m.border:=by rw[hb];simp
 rw[mem_border]at hne
 have h1:¬ m.use e.rev<m.use e:=λhh=>hne ⟨hz,he,hh⟩
 unfold Mesh.use at h1
 rw[if_pos hz,if_pos hz]at h1
 have h2:0<(Q8 m.tris).count e:=List.count_pos_iff.2 he
 exact List.count_pos_iff.1 (by omega)
theorem clo_closed {m:Mesh} (hz:m.check=0) (hc:Coh m.tris) (h:Clo m.tris):m.closed=true:=by
 unfold Mesh.closed
 simp only[Bool.and_eq_true,decide_eq_true_eq]
 refine⟨hz,?_⟩
 rw[List.eq_nil_iff_forall_not_mem]
 intro e he
 rw[mem_border]at he
 obtain⟨_,h1,h2⟩:=he
 unfold Mesh.use at h2
 rw[if_pos hz,if_pos hz]at h2
 have h3:=List.nodup_iff_count.1 (coh_iff.2 hc) e
 have h4:0<(Q8 m.tris).count e.rev:=List.count_pos_iff.2 (h e h1)
 omega
def Whole (ts:List T3) (F:List Int):Prop:=∀i j:Nat,adjI ts i j->((i:Int)∈F↔(j:Int)∈F)
theorem flp_coh {ts:List T3} {F:List Int} (hw:Whole ts F) (h:Coh ts):Coh (flp ts F):=by
 intro i j e hi hj h1 h2
 rw[Zj]at hi hj
 have ha:adjI ts i j:=(flp_Fl ts F).symm.adj (Wm (by rw[Zj];exact hi) (by rw[Zj];exact hj) h1 h2 rfl)
 have hij:=hw i j ha
 rw[Bc hi]at h1
 rw[Bc hj]at h2
 by_cases hF:(i:Int)∈F
 ·rw[if_pos hF,mem_edges_rev]at h1
  rw[if_pos (hij.1 hF),mem_edges_rev]at h2
  exact h i j e.rev hi hj h1 h2
 ·rw[if_neg hF]at h1
  rw[if_neg (λhh=>hF (hij.2 hh))]at h2
  exact h i j e hi hj h1 h2
theorem flp_clo {ts:List T3} {F:List Int} (hw:Whole ts F) (h:Clo ts):Clo (flp ts F):=by
 intro e he
 obtain⟨i,hi,h1⟩:=mem_all.1 he
 rw[Zj]at hi
 rw[Bc hi]at h1
 by_cases hF:(i:Int)∈F
 ·rw[if_pos hF,mem_edges_rev]at h1
  obtain⟨j,hj,h2⟩:=mem_all.1 (h _ (mem_all.2 ⟨i,hi,h1⟩))
  rw[rev_rev]at h2
  have ha:=Wm hi hj h1 h2 (Bx e)
  refine mem_all.2 ⟨j,by rw[Zj];exact hj,?_⟩
  rw[Bc hj,if_pos ((hw i j ha).1 hF),mem_edges_rev,rev_rev]
  exact h2
 ·rw[if_neg hF]at h1
  obtain⟨j,hj,h2⟩:=mem_all.1 (h _ (mem_all.2 ⟨i,hi,h1⟩))
  have ha:=Wm hi hj h1 h2 (Bx e).symm
  refine mem_all.2 ⟨j,by rw[Zj];exact hj,?_⟩
  rw[Bc hj,if_neg (λhh=>hF ((hw i j ha).2 hh))]
  exact h2
theorem neg_mem {vs:List V3} {ts:List T3} {L:List Int} {n:Nat} {sh:List Int} (hs:sh∈Zl L n) {v:Int} (hv:v∈sh):v∈(Za vs ts (Zl L n)).flatten↔Y2 vs (Qk ts sh)<0:=by
 obtain⟨i,hi,hLi,rfl⟩:=shsK_mem.1 hs
 obtain⟨j,rfl,hj,hLj⟩:=mem_shK2.1 hv
 rw[List.mem_flatten]
 constructor
 ·rintro⟨sh',h1,h2⟩
  have hf:=List.mem_filter.1 h1
  obtain⟨i',_,_,he⟩:=shsK_mem.1 hf.1
  have h3:=hf.2
  subst he
  obtain⟨j',hjj,_,hLj'⟩:=mem_shK2.1 h2
  obtain rfl:j=j':=by omega
  rw[hLj]at hLj'
  have:=Option.some.inj hLj'
  obtain rfl:i=i':=by omega
  simpa using h3
 ·intro h
  exact⟨_,List.mem_filter.2 ⟨hs,by simpa using h⟩,hv⟩
theorem lab_sh {ts:List T3} {L:List Int} (hL:IsLab ts L) {i:Nat} (hi:i<ts.length):∃q:Nat,L[i]?=some (q:Int)/\L[q]?=some (q:Int)/\q<=i/\shK L q L.length∈Zl L ts.length/\(i:Int)∈shK L q L.length:=by
 have hv:L[i]?=some (L[i]'(by rw[hL.len];exact hi)):=List.getElem?_eq_getElem _
 generalize L[i]'(by rw[hL.len];exact hi)=v at hv
 obtain⟨v0,v1,hc⟩:=hL.con i v hv
 have hvv:=hL.conn hc
 rw[hv]at hvv
 have hvn:(v.toNat:Int)=v:=Int.toNat_of_nonneg v0
 have h1:L[v.toNat]?=some (v.toNat:Int):=by rw[hvn];exact hvv.symm
 refine⟨v.toNat,by rw[hvn];exact hv,h1,by omega,shsK_mem.2 ⟨v.toNat,hc.lt.2,h1,rfl⟩,mem_shK2.2 ⟨i,rfl,by rw[hL.len];exact hi,by rw[hvn];exact hv⟩⟩
theorem negs_whole {vs:List V3} {ts:List T3} {L:List Int} (hL:IsLab ts L):Whole ts (Za vs ts (Zl L ts.length)).flatten:=by
 intro i j ha
 have hl:=ha.lt
 obtain⟨q,h1,h2,h3,h4,h5⟩:=lab_sh hL hl.1
 have hj:(j:Int)∈shK L q L.length:=mem_shK2.2 ⟨j,rfl,by rw[hL.len];exact hl.2,by rw[<- hL.adj i j ha];exact h1⟩
 rw[neg_mem h4 h5,neg_mem h4 hj]
theorem part_flp {vs:List V3} {ts:List T3} {L:List Int} (hL:IsLab ts L) {sh:List Int} (hs:sh∈Zl L ts.length) :
  0<=Y2 vs (Qk (flp ts (Za vs ts (Zl L ts.length)).flatten) sh):=by
 have hr:∀v∈sh,0<=v/\v.toNat<ts.length/\(v.toNat:Int)=v:=by
  intro v hv
  obtain⟨i,hi,hLi,rfl⟩:=shsK_mem.1 hs
  obtain⟨j,rfl,hj,hLj⟩:=mem_shK2.1 hv
  rw[hL.len]at hj
  omega
 by_cases hn:Y2 vs (Qk ts sh)<0
 ·have:Qk (flp ts (Za vs ts (Zl L ts.length)).flatten) sh=(Qk ts sh).map T3.rev:=by
   unfold Qk
   rw[List.map_map]
   refine List.map_congr_left λv hv=>?_
   obtain⟨h0,h1,h2⟩:=hr v hv
   rw[Bc h1,h2,if_pos ((neg_mem hs hv).2 hn)];rfl
  rw[this,volL_rev]
  omega
 ·have:Qk (flp ts (Za vs ts (Zl L ts.length)).flatten) sh=Qk ts sh:=by
   unfold Qk
   refine List.map_congr_left λv hv=>?_
   obtain⟨h0,h1,h2⟩:=hr v hv
   rw[Bc h1,h2,if_neg (λhh=>hn ((neg_mem hs hv).1 hh))]
  rw[this]
  omega
structure OutOk (x:Mesh):Prop where
 z:x.check=0
 clo:x.closed=true
 coh:Yv x.tris=true
 vol:∀sh∈x.shells,0<=Y2 x.verts (Qk x.tris sh)
theorem outw_ok {m:Mesh} (hz:m.check=0) (hc:m.closed=true) (hh:Yv m.tris=true):OutOk m.outw:=by
 obtain⟨L,hL⟩:=Uw m.tris
 have hR:m.shells=Zl L m.tris.length:=by unfold Mesh.shells;rw[if_pos hz,Yk hL,hL.len]
 have hz2:m.outw.check=0:=flp_check hz _
 have hR2:m.outw.shells=Zl L m.tris.length:=by
  unfold Mesh.shells
  rw[if_pos hz2]
  show Zl (labOf (flp m.tris _)) (labOf (flp m.tris _)).length=_
  rw[(flp_Fl m.tris _).labOf,Yk hL,hL.len]
 have hneg:m.negs=Za m.verts m.tris (Zl L m.tris.length):=by unfold Mesh.negs;rw[hR]
 have hw:Whole m.tris m.negs.flatten:=by rw[hneg];exact negs_whole hL
 have hcoh:=flp_coh hw (cohB_iff.1 hh)
 refine⟨hz2,clo_closed hz2 hcoh (flp_clo hw (closed_clo hc).2),cohB_iff.2 hcoh,λsh hs=>?_⟩
 rw[hR2]at hs
 have:=part_flp (vs:=m.verts) hL hs
 rw[<- hneg]at this
 exact this
theorem outR_again {x:Mesh} (h:OutOk x):Zs x=(x,0,0):=by
 have hn:x.negs=[]:=by
  unfold Mesh.negs Za
  rw[List.filter_eq_nil_iff]
  intro sh hs
  have:=h.vol sh hs
  simp;omega
 unfold Zs Mesh.outw
 rw[if_neg (by simpa using h.z),if_neg (by rw[h.clo];simp),if_neg (by rw[h.coh];simp),hn]
 simp[flp_nil]
theorem outR_cases (m:Mesh):((Zs m).2.2≠0/\Zs m=(⟨[],[]⟩,0,(Zs m).2.2))∨(Zs m=(m.outw,(m.negs.length:Int),0)/\OutOk m.outw):=by
 unfold Zs
 by_cases hz:m.check=0
 case neg=>rw[if_pos hz];exact .inl ⟨hz,rfl⟩
 rw[if_neg (by simpa using hz)]
 by_cases hc:m.closed=false
 case pos=>rw[if_pos hc];exact .inl ⟨by simp,rfl⟩
 rw[if_neg hc]
 by_cases hh:Yv m.tris=false
 case pos=>rw[if_pos hh];exact .inl ⟨by simp,rfl⟩
 rw[if_neg hh]
 exact .inr ⟨rfl,outw_ok hz (by simpa using hc) (by simpa using hh)⟩
end Go.Abs
set_option linter.unusedVariables false
set_option linter.unusedSimpArgs false
namespace Go.Abs
theorem Fl.check {vs:List V3} {ts us:List T3} (h:Fl ts us) (hz:(Mesh.mk vs ts).check=0):(Mesh.mk vs us).check=0:=by
 obtain⟨z1,z2,z3,z4⟩:=Mesh.check_zero.1 hz
 refine Mesh.check_zero.2 ⟨z1,by rw[show (Mesh.mk vs us).tris.length=us.length from rfl,h.len];exact z2,z3,?_⟩
 simp only[Uj,List.all_eq_true]
 intro t ht
 obtain⟨i,hi⟩:=List.getElem?_of_mem ht
 have hil:=(List.getElem?_eq_some_iff.1 hi).1
 have hil2:i<ts.length:=by rw[<- h.len];exact hil
 have hok:=tAt_ok z4 hil2
 rw[Ql hil]at hi
 obtain rfl:=Option.some.inj hi
 rcases h.tat hil2 with h1 | h1
 ·rw[h1];exact hok
 ·rw[h1];exact T3.rev_ok hok
theorem Fl.trans {ts us vs:List T3} (h:Fl ts us) (k:Fl us vs):Fl ts vs where
 len:=by rw[k.len,h.len]
 at_ i t u h1 h2:=by
  have hi:=(List.getElem?_eq_some_iff.1 h1).1
  have hu:i<us.length:=by rw[h.len];exact hi
  have hv:i<vs.length:=by rw[k.len];exact hu
  rw[Ql hi]at h1
  rw[Ql hv]at h2
  obtain rfl:=Option.some.inj h1
  obtain rfl:=Option.some.inj h2
  rcases h.tat hi with h3 | h3<;>rcases k.tat hu with h4 | h4
  ·exact .inl (by rw[h4,h3])
  ·exact .inr (by rw[h4,h3])
  ·exact .inr (by rw[h4,h3])
  ·exact .inl (by rw[h4,h3];rfl)
theorem good_self {ts:List T3} {L:List Int} (hc:Coh ts):Good ts ts L:=⟨Fl.refl ts,hc,λ_ _ _=>rfl⟩
theorem oriR_err {m:Mesh} (hz:m.check=0) (h:Y8 m.tris=none):Zp m=(⟨[],[]⟩,0,13):=by
 unfold Zp;simp only[if_neg (show ¬ m.check≠0 by simpa using hz),h]
theorem oriR_ok {m:Mesh} (hz:m.check=0) {us:List T3} (h:Y8 m.tris=some us):Zp m=((⟨m.verts,us⟩:Mesh),(difN m.tris us:Int),(0:Int)):=by
 unfold Zp;simp only[if_neg (show ¬ m.check≠0 by simpa using hz),h]
end Go.Abs
set_option linter.unusedVariables false
set_option linter.unusedSimpArgs false
namespace Go.Abs
theorem nodup_take_succ {α:Type} {l:List α} {k:Nat} {x:α} (hx:l[k]?=some x) (h:(l.take k).Nodup) (hm:x∉l.take k):(l.take (k+1)).Nodup:=by
 rw[List.take_add_one,hx,List.nodup_append]
 exact⟨h,by simp,λa ha b hb=>by simp at hb;subst hb;rintro rfl;exact hm ha⟩
theorem p2_ext {x y:P2} (h1:x.x=y.x) (h2:x.y=y.y):x=y:=by cases x;cases y;simp_all
section
variable {P:Program} (hm:P.follows .mixedOrders=true)
include hm
set_option maxHeartbeats 4000000 in
theorem ref11_uses_ok {f:FuncId} (hf:Q9 P f ref11_uses.c ref11_uses.r ref11_uses.n):Ye P f:=by
 intro t
 refine PureC.is (Q7 hm hf (Nat.le_of_ble_eq_true rfl) ?_) rfl
 unfold ref11_uses.c
 simp[go_sem,T3.enc,T3.cs]
 have w1:IntKind.i64.wrap 1=1:=rfl
 have w2:IntKind.i64.wrap 2=2:=rfl
 have w3:IntKind.i64.wrap 3=3:=rfl
 refine Qq [.t 4 2] (α:=Nat) (λk=>k<=3)
  (λk=>⟨[(3,.own 1 1 0 3),(4,.own 2 ((Qw t k).length+1) 0 (Qw t k).length),(5,.i .i64 k)],
   [.dead,.arr 1 2 [[.i .i64 t.a,.i .i64 t.b],[.i .i64 t.b,.i .i64 t.c],[.i .i64 t.c,.i .i64 t.a]],.arr ((Qw t k).length+1) 2 ((Qw t k).map P2.cs)]⟩)
  (λk=>3-k) 0 (by omega) ?_ ?_
 ·simp[go_sem,edgesK_0,V.cl,V.cl1,V.cl0]
 ·intro k hk
  have hl:=Qz t k
  by_cases h3:k=3
  ·subst h3
   simp[go_sem,ref11_uses.r,psV,Q2,p2_isD]
  ·have:k=0∨k=1∨k=2:=by omega
   rcases this with rfl | rfl | rfl
   ·have hs:=edgesK_1 t
    generalize hE:Qw t 0=E0 at hs hl
    by_cases h:t.a=t.b
    ·rw[if_pos h]at hs
     simp[go_sem,h,w1,w2,w3]
     exact⟨1,by omega,by omega,by simp[hs],by simp[hs],by simp[Wd]⟩
    ·rw[if_neg h]at hs
     simp[go_sem,h,w1,w2,w3]
     exact⟨by omega,1,by omega,by omega,by simp[hs],by simp[hs,pcs,or_imp,forall_and,V.cl,V.cl1,V.cl0]⟩
   ·have hs:=edgesK_2 t
    generalize hE:Qw t 1=E0 at hs hl
    by_cases h:t.b=t.c
    ·rw[if_pos h]at hs
     simp[go_sem,h,w1,w2,w3]
     exact⟨2,by omega,by omega,by simp[hs],by simp[hs],by simp[Wd]⟩
    ·rw[if_neg h]at hs
     simp[go_sem,h,w1,w2,w3]
     exact⟨by omega,2,by omega,by omega,by simp[hs],by simp[hs,pcs,or_imp,forall_and,V.cl,V.cl1,V.cl0]⟩
   ·have hs:=edgesK_3 t
    generalize hE:Qw t 2=E0 at hs hl
    by_cases h:t.c=t.a
    ·rw[if_pos h]at hs
     simp[go_sem,h,w1,w2,w3]
     exact⟨3,by omega,by omega,by simp[hs],by simp[hs],by simp[Wd]⟩
    ·rw[if_neg h]at hs
     simp[go_sem,h,w1,w2,w3]
     exact⟨by omega,3,by omega,by omega,by simp[hs],by simp[hs,pcs,or_imp,forall_and,V.cl,V.cl1,V.cl0]⟩
set_option maxHeartbeats 4000000 in
theorem By {f fu:FuncId} (hf:Q9 P f (ref11_coherent.c fu) ref11_coherent.r ref11_coherent.n) (hu:Ye P fu):CohC P f:=by
 intro l hl
 refine PureC.is (Q7 hm hf (Nat.le_of_ble_eq_true rfl) ?_) rfl
 unfold ref11_coherent.c
 simp[go_sem,tsV]
 refine Qq [.t 3 2] (α:=Nat) (λk=>k<=l.length)
  (λk=>⟨[(0,tsV l),(3,.own 0 (k+1) 0 (Q8 (l.take k)).length),(4,.i .i64 k)],[.arr (k+1) 2 ((Q8 (l.take k)).map P2.cs)]⟩)
  (λk=>l.length-k) 0 (by omega) ?_ ?_
 ·simp[go_sem,tsV,Q8]
 ·intro k hk
  have hal:(Q8 (l.take k)).length<=3*k:=Y1 l k
  by_cases hkl:k=l.length
  ·subst hkl
   rw[List.take_length]at hal ⊢
   simp[go_sem,tsV]
   generalize hE:Q8 l=E at hal ⊢
   refine Qe (α:=Nat) (λk=>k<=E.length/\(E.take k).Nodup)
    (λk=>⟨[(3,.own 0 (l.length+1) 0 E.length),(5,.i .i64 k)],[.arr (l.length+1) 2 (E.map P2.cs)]⟩)
    (λk=>E.length-k) 0 ⟨by omega,by simp⟩ ?_ ?_
   ·simp[go_sem,Wd]
   ·rintro i ⟨hi,hnd⟩
    by_cases hil:i=E.length
    ·subst hil
     rw[List.take_length]at hnd
     simp[go_sem,ref11_coherent.r,Yv,hE,hnd]
    ·have hilt:i<E.length:=by omega
     have hp:E[i]?=some E[i]:=List.getElem?_eq_getElem hilt
     generalize E[i]=x at hp
     obtain⟨_,hp'⟩:=List.getElem?_eq_some_iff.1 hp
     simp[go_sem,hilt]
     refine Qe (α:=Nat) (λk=>k<=i/\x∉E.take k)
      (λk=>⟨[(3,.own 0 (l.length+1) 0 E.length),(5,.i .i64 i),(6,.i .i64 k)],[.arr (l.length+1) 2 (E.map P2.cs)]⟩)
      (λk=>i-k) 0 ⟨by omega,by simp⟩ ?_ ?_
     ·simp[go_sem,Wd]
     ·rintro k ⟨hk,hnm⟩
      by_cases hki:k=i
      ·subst hki
       simp (disch:=omega) [go_sem,Q0]
       exact⟨k+1,⟨by omega,nodup_take_succ hp hnd hnm⟩,by omega,by omega,by simp[Wd]⟩
      ·have hklt:k<E.length:=by omega
       have hq:E[k]?=some E[k]:=List.getElem?_eq_getElem hklt
       generalize E[k]=y at hq
       obtain⟨_,hq'⟩:=List.getElem?_eq_some_iff.1 hq
       have hki':k<i:=by omega
       simp[go_sem,hki',hilt,hklt,hp',hq',pcs]
       by_cases hxy:x=y
       ·refine⟨λ_ _=>?_,λh=>absurd (by rw[hxy]) (h (by rw[hxy]))⟩
        have hnn:¬ (Q8 l).Nodup:=by
         rw[hE]
         intro hall
         exact List.pairwise_iff_getElem.1 hall k i hklt hilt hki' (by rw[hp',hq',hxy])
        simp[go_sem,ref11_coherent.r,Yv,hnn]
       ·refine⟨λh1 h2=>absurd (p2_ext h1 h2) hxy,λ_=>⟨k+1,⟨by omega,?_⟩,by omega,Q0 (by omega) (by omega)⟩⟩
        rw[List.take_add_one,hq]
        simp[hnm,hxy]
  ·have hlt:k<l.length:=by omega
   have hp:l[k]?=some l[k]:=List.getElem?_eq_getElem hlt
   generalize l[k]=t at hp
   obtain⟨_,hp'⟩:=List.getElem?_eq_some_iff.1 hp
   simp[go_sem,tsV,hlt,hp',tcs]
   refine Q3 (hu t) ?_
   have hel:(Q2 t).length<=3:=Qz t 3
   simp[go_sem,psV]
   refine⟨by omega,k+1,by omega,by omega,?_⟩
   rw[Zz hp]
   simp[Wd]
   exact Q0 (by omega) (by omega)
end
end Go.Abs
set_option linter.unusedVariables false
set_option linter.unusedSimpArgs false
namespace Go.Abs
def Mesh.coh (m:Mesh):Bool:=decide (m.check=0) && Yv m.tris
def Kb (P:Program) (f:FuncId):Prop:=∀m:Mesh,CallIs P f [m.enc] (.b m.coh)
section
variable {P:Program} (hm:P.follows .mixedOrders=true)
include hm
theorem Iq {f fc fh:FuncId} (hf:Q9 P f (orient_Coherent.c fc fh) orient_Coherent.r orient_Coherent.n) (hc:Z8 P fc) (hh:CohC P fh):Kb P f:=by
 intro m
 refine PureC.is (Q7 hm hf (Nat.le_of_ble_eq_true rfl) ?_) rfl
 unfold orient_Coherent.c
 simp[go_sem,Mesh.enc,Mesh.cs]
 refine Q3 (hc m) ?_
 by_cases h:m.check=0
 ·have hl:=(Mesh.check_zero.1 h).2.1
  simp[go_sem,h]
  refine Q3 (hh m.tris (by omega)) ?_
  simp[go_sem,orient_Coherent.r,Mesh.coh,h]
 ·have h':(m.check == 0)=false:=by simpa using h
  simp[go_sem,h,h',orient_Coherent.r,Mesh.coh]
theorem ref11_Coherent_ok {f fc fh:FuncId} (hf:Q9 P f (ref11_Coherent.c fc fh) ref11_Coherent.r ref11_Coherent.n) (hc:Z8 P fc) (hh:CohC P fh):Kb P f:=by
 intro m
 refine PureC.is (Q7 hm hf (Nat.le_of_ble_eq_true rfl) ?_) rfl
 unfold ref11_Coherent.c
 simp[go_sem,Mesh.enc,Mesh.cs]
 refine Q3 (hc m) ?_
 by_cases h:m.check=0
 ·have hl:=(Mesh.check_zero.1 h).2.1
  simp[go_sem,h]
  refine Q3 (hh m.tris (by omega)) ?_
  simp[go_sem,ref11_Coherent.r,Mesh.coh,h]
 ·have h':(m.check == 0)=false:=by simpa using h
  simp[go_sem,h,h',ref11_Coherent.r,Mesh.coh]
end
end Go.Abs
