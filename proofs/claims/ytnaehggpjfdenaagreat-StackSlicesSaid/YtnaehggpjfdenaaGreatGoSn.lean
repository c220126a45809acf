/- Part of the library on which the proof stands: an abstract machine, its values and its soundness against the model; or what functions of the program do to such values. -/
import Derived.Test.YtnaehggpjfdenaaGreatGoSl
import Derived.Test.YtnaehggpjfdenaaGreatAbsCP
set_option linter.unusedVariables false
set_option linter.unusedSimpArgs false
set_option maxHeartbeats 8000000
set_option maxRecDepth 20000
namespace Go.Abs
def Z6 (n:Int) (Q:List (P2 × Int)) (e:P2):Int:=Q.foldl (λa p=>if p.1=e then min a p.2 else a) n
theorem Q5e (n:Int) (Q:List (P2 × Int)) (p:P2 × Int) (e:P2):Z6 n (Q++[p]) e=if e=p.1 then min (Z6 n Q e) p.2 else Z6 n Q e:=by
 unfold Z6;rw[List.foldl_append];simp only[List.foldl_cons,List.foldl_nil];by_cases h:e=p.1
 ·rw[if_pos h,if_pos h.symm]
 ·rw[if_neg h,if_neg (λhh=>h hh.symm)]
theorem Qec (n:Int) (Q:List (P2 × Int)) (e:P2):(Z6 n Q e=n∨∃p∈Q,p.1=e/\p.2=Z6 n Q e)/\∀p∈Q,p.1=e->Z6 n Q e<=p.2:=by
 have key:∀k,k<=Q.length->((Z6 n (Q.take k) e=n∨∃p∈Q.take k,p.1=e/\p.2=Z6 n (Q.take k) e)/\∀p∈Q.take k,p.1=e->Z6 n (Q.take k) e<=p.2)/\Z6 n (Q.take k) e<=n:=by
  intro k
  induction k with
  | zero=>intro _;exact⟨⟨.inl rfl,by simp⟩,Int.le_refl _⟩
  | succ k ih =>
    intro hk;obtain⟨⟨h1,h2⟩,h3⟩:=ih (by omega);have hp:Q[k]?=some Q[k]:=q9 (by omega);rw[Q6 hp,Q5e];generalize Q[k]=q at *
    by_cases h:e=q.1
    ·rw[if_pos h];refine⟨⟨?_,λp hpm hpe=>?_⟩,by omega⟩
     ·by_cases hle:Z6 n (Q.take k) e<=q.2
      ·rw[Int.min_eq_left hle];rcases h1 with h1 | ⟨p,hpm,h4⟩
       ·exact .inl h1
       ·exact .inr ⟨p,qg.2 (.inl hpm),h4⟩
      ·rw[Int.min_eq_right (by omega)];exact .inr ⟨q,qg.2 (.inr (by simp)),h.symm,rfl⟩
     ·rcases qg.1 hpm with hh | hh
      ·have:=h2 p hh hpe;omega
      ·simp at hh;subst hh;omega
    ·rw[if_neg h];refine⟨⟨?_,λp hpm hpe=>?_⟩,h3⟩
     ·rcases h1 with h1 | ⟨p,hpm,h4⟩
      ·exact .inl h1
      ·exact .inr ⟨p,qg.2 (.inl hpm),h4⟩
     ·rcases qg.1 hpm with hh | hh
      ·exact h2 p hh hpe
      ·simp at hh;subst hh;exact absurd hpe.symm h
 have:=(key Q.length (Nat.le_refl _)).1
 rwa [qi]at this
def lAt (L:List Int) (i:Nat):Int:=(L[i]?).getD 0
def tAt (ts:List T3) (i:Nat):T3:=(ts[i]?).getD ⟨0,0,0⟩
def Xc (ts:List T3) (L:List Int) (k:Nat):List (P2 × Int):=(List.range k).flatMap λi=>(Q4 (tAt ts i)).map λe=>(e.und,lAt L i)
theorem Qjj (ts:List T3) (L:List Int) (k:Nat):Xc ts L (k+1)=Xc ts L k++(Q4 (tAt ts k)).map λe=>(e.und,lAt L k):=by
 unfold Xc;rw[List.range_succ,List.flatMap_append];simp
def W5 (g:P2->Int) (l:List P2) (v:Int):Int:=l.foldl (λa e=>min a (g e.und)) v
theorem Qe7 (g:P2->Int) (l:List P2) (e:P2) (v:Int):W5 g (l++[e]) v=min (W5 g l v) (g e.und):=by unfold W5;rw[List.foldl_append];rfl
theorem Qp2 (g:P2->Int) (l:List P2) (v:Int):(W5 g l v=v∨∃e∈l,g e.und=W5 g l v)/\W5 g l v<=v/\∀e∈l,W5 g l v<=g e.und:=by
 refine Io (p:=λl=>(W5 g l v=v∨∃e∈l,g e.und=W5 g l v)/\W5 g l v<=v/\∀e∈l,W5 g l v<=g e.und) ?_ ?_ l
 ·exact⟨.inl rfl,Int.le_refl _,by simp⟩
 ·rintro E x ⟨h1,h2,h3⟩;rw[Qe7];refine⟨?_,by omega,λe he=>?_⟩
  ·by_cases hle:W5 g E v<=g x.und
   ·rw[Int.min_eq_left hle];rcases h1 with h1 | ⟨e,he,h4⟩
    ·exact .inl h1
    ·exact .inr ⟨e,by simp[he],h4⟩
   ·rw[Int.min_eq_right (by omega)];exact .inr ⟨x,by simp,rfl⟩
  ·rcases qg.1 he with h | h
   ·have:=h3 e h;omega
   ·simp at h;subst h;omega
def gOf (ts:List T3) (L:List Int):P2->Int:=Z6 L.length (Xc ts L ts.length)
def J4 (ts:List T3) (L:List Int) (k:Nat):List Int:=(List.range k).map λi=>W5 (gOf ts L) (Q4 (tAt ts i)) (lAt L i)
theorem Qqu (ts:List T3) (L:List Int) (k:Nat):J4 ts L (k+1)=J4 ts L k++[W5 (gOf ts L) (Q4 (tAt ts k)) (lAt L k)]:=by unfold J4;rw[List.range_succ,qx];rfl
theorem Q8k (ts:List T3) (L:List Int) (k:Nat):(J4 ts L k).length=k:=by simp[J4]
theorem pairs_mem {ts:List T3} {L:List Int} {k:Nat} {p:P2 × Int}:p∈Xc ts L k↔∃i<k,∃e∈Q4 (tAt ts i),p=(e.und,lAt L i):=by
 unfold Xc;rw[jr];constructor
 ·rintro⟨i,hi,h⟩;obtain⟨e,he,rfl⟩:=qo.1 h;exact⟨i,qz.1 hi,e,he,rfl⟩
 ·rintro⟨i,hi,e,he,rfl⟩;exact⟨i,qz.2 hi,qo.2 ⟨e,he,rfl⟩⟩
theorem Q1g {ts:List T3} {L:List Int} (h:PreLab ts L):Spread ts L (J4 ts L ts.length):=by
 have hget:∀i v,(J4 ts L ts.length)[i]?=some v->i<ts.length/\v=W5 (gOf ts L) (Q4 (tAt ts i)) (lAt L i):=by
  intro i v hv;unfold J4 at hv;rw[qp,qa]at hv
  obtain⟨j,hj,rfl⟩:=hv;obtain⟨h1,h2⟩:=q8.1 hj;simp at h1 h2;subst h2;exact⟨h1,rfl⟩
 have hL:∀i,i<ts.length->L[i]?=some (lAt L i):=λi hi=>by
  unfold lAt;rw[q9 (by rw[h.len];exact hi)];rfl
 have hT:∀i,i<ts.length->ts[i]?=some (tAt ts i):=λi hi=>by
  unfold tAt;rw[q9 hi];rfl
 have hadj:∀i j e e',i<ts.length->j<ts.length->e∈Q4 (tAt ts i)->e'∈Q4 (tAt ts j)->e.und=e'.und->near ts i j:=λi j e e' hi hj he he' hu =>
  .inr ⟨_,_,hT i hi,hT j hj,e,he,e',he',hu⟩
 refine⟨Q8k _ _ _,λi v hv=>?_,λi j v u hv hn hu=>?_⟩
 ·obtain⟨hi,rfl⟩:=hget i v hv;obtain⟨m1,m2,m3⟩:=Qp2 (gOf ts L) (Q4 (tAt ts i)) (lAt L i);rcases m1 with m1 | ⟨e,he,m1⟩
  ·exact⟨i,.inl rfl,by rw[m1];exact hL i hi⟩
  ·obtain⟨l1,l2⟩:=Qec L.length (Xc ts L ts.length) e.und;rcases l1 with l1 | ⟨p,hp,l1,l3⟩
   ·exfalso;have h1:=l2 (e.und,lAt L i) (pairs_mem.2 ⟨i,hi,e,he,rfl⟩) rfl;have h2:=(h.con i _ (hL i hi)).2.1;have h3:=h.len;simp only at h1;omega
   ·obtain⟨j,hj,e',he',rfl⟩:=pairs_mem.1 hp;refine⟨j,hadj i j e e' hi hj he he' l1.symm,?_⟩;rw[<- m1];show L[j]?=some (Z6 L.length (Xc ts L ts.length) e.und);rw[<- l3];exact hL j hj
 ·obtain⟨hi,rfl⟩:=hget i v hv;obtain⟨m1,m2,m3⟩:=Qp2 (gOf ts L) (Q4 (tAt ts i)) (lAt L i);rcases hn with rfl | ⟨s,t,hs,ht,a,ha,b,hb,hab⟩
  ·rw[hL _ hi]at hu
   obtain rfl:=Option.some.inj hu;exact m2
  ·have hj:=(q8.1 ht).1;rw[hT i hi]at hs
   rw[hT j hj]at ht
   obtain rfl:=Option.some.inj hs;obtain rfl:=Option.some.inj ht;rw[hL j hj]at hu
   obtain rfl:=Option.some.inj hu;have h1:=m3 a ha;have h2:=(Qec L.length (Xc ts L ts.length) a.und).2 (b.und,lAt L j) (pairs_mem.2 ⟨j,hj,b,hb,rfl⟩) hab.symm;have h3:gOf ts L a.und=Z6 L.length (Xc ts L ts.length) a.und:=rfl;simp only at h2;omega
def lw (K:List P2) (g:P2->Int):List Use:=K.map λe=>(e,g e)
theorem Qao (K:List P2) (g:P2->Int):(lw K g).length=K.length:=by simp[lw]
theorem Qgq {K:List P2} (h:asc K) (g:P2->Int):Ju (lw K g):=by
 unfold lw Ju;rw[ji];exact h
theorem Q4d {K:List P2} (g:P2->Int) {i:Nat} {e:P2} (h:K[i]?=some e):(lw K g)[i]?=some (e,g e):=by simp[lw,h]
theorem lw_pl {K:List P2} (h:asc K) (g:P2->Int) {i:Nat} {e:P2} (he:K[i]?=some e):pl (lw K g) e=i:=Q1z (Qgq h g) (Q4d g he)
theorem lw_num {K:List P2} (h:asc K) (g:P2->Int) {e:P2} (he:e∈K):K3 (lw K g) e=g e:=Q2d (Qgq h g) (qo.2 ⟨e,he,rfl⟩)
theorem lw_set {K:List P2} (h:asc K) (g g':P2->Int) {i:Nat} {e:P2} (he:K[i]?=some e) (hg:∀a∈K,a≠e->g' a=g a):(lw K g).set i (e,g' e)=lw K g':=by
 apply qy;intro j;have hil:=(q8.1 he).1;by_cases hj:i=j
 ·subst hj;rw[qm (by rw[Qao];exact hil),Q4d g' he]
 ·rw[qt hj];by_cases hjl:j<K.length
  ·have hp:K[j]?=some K[j]:=q9 hjl;rw[Q4d g hp,Q4d g' hp];have hne:K[j]≠e:=by
    intro hh;have hn:K.Nodup:=h.imp λh1 h2=>by subst h2;exact P2.lt_irrefl _ h1
    have hp2:K[j]?=some e:=by rw[hp,hh]
    obtain⟨q1,q2⟩:=q8.1 he;obtain⟨q3,q4⟩:=q8.1 hp2;have e1:=hn.idxOf_getElem i q1;have e2:=hn.idxOf_getElem j q3;rw[q2]at e1;rw[q4]at e2
    omega
   rw[hg K[j] (List.getElem_mem _) hne]
  ·rw[qk (by rw[Qao];omega),qk (by rw[Qao];omega)]
theorem undL_lw (E:List P2):Xk E=lw (Jv E) (λ_=>0):=by
 have h:=Quf E;have h2:=(Q7o E).2.1;rw[<- h];unfold lw;rw[List.map_map];have:(Xk E).map id=(Xk E).map ((λe=>(e,(0:Int))) ∘ Prod.fst):=by
  refine jv λu hu=>?_
  have:=((h2 u.1 u.2).1 hu).2;simp only[id,Function.comp];rw[<- this]
 rw[<- this,List.map_id]
theorem Qgt (ts:List T3):∃L,IsLab ts L:=by
 have key:∀(n:Nat) (L:List Int),PreLab ts L->Q5s L<n->∃K,IsLab ts K:=by
  intro n
  induction n with
  | zero=>intro L _ h;omega
  | succ n ih =>
    intro L hL hn;by_cases h:J4 ts L ts.length=L
    ·exact⟨L,Spread.fix hL (by have:=Q1g hL;rwa [h]at this)⟩
    ·have:=(Q1g hL).sum hL h;exact ih _ (hL.spread (Q1g hL)) (by omega)
 exact key (Q5s ((List.range ts.length).map λ(j:Nat)=>(j:Int))+1) _ (Qvi ts) (by omega)
theorem IsLab.conn_iff {ts:List T3} {L:List Int} (h:IsLab ts L) {i j:Nat} (hi:i<ts.length) (hj:j<ts.length):Conn ts i j↔L[i]?=L[j]?:=by
 constructor
 ·exact h.conn
 ·intro he;have h1:L[i]?=some (L[i]'(by rw[h.len];exact hi)):=q9 _;have h2:=h1;rw[he]at h2
  exact((h.con i _ h1).2.2).trans ((h.con j _ h2).2.2).symm
def usL (Q:List (P2 × Int)) (e:P2):List Int:=(Q.filter λp=>decide (p.1=e)).map Prod.snd
theorem Wt (Q:List (P2 × Int)) (p:P2 × Int) (e:P2):usL (Q++[p]) e=if p.1=e then usL Q e++[p.2] else usL Q e:=by
 unfold usL;rw[List.filter_append,qx];by_cases h:p.1=e<;>simp[h]
theorem mem_usL {Q:List (P2 × Int)} {e:P2} {v:Int}:v∈usL Q e↔(e,v)∈Q:=by
 unfold usL;rw[qo];constructor
 ·rintro⟨p,hp,rfl⟩;have h:=qu.1 hp;have h2:p.1=e:=by simpa using h.2
  subst h2;exact h.1
 ·intro h;exact⟨(e,v),qu.2 ⟨h,by simp⟩,rfl⟩
theorem Qok (Q:List (P2 × Int)) (e:P2):(usL Q e).length<=Q.length:=by
 unfold usL;rw[List.length_map];exact jc _ _
def Q18 (ts:List T3) (k:Nat):List (P2 × Int):=(List.range k).flatMap λi=>(Q4 (tAt ts i)).map λe=>(e.und,(i:Int))
theorem Qez (ts:List T3) (k:Nat):Q18 ts (k+1)=Q18 ts k++(Q4 (tAt ts k)).map λe=>(e.und,(k:Int)):=by
 unfold Q18;rw[List.range_succ,List.flatMap_append];simp
theorem Ql0 (ts:List T3) (k:Nat):(Q18 ts k).length<=3*k:=by
 induction k with
 | zero=>simp[Q18]
 | succ k ih =>
   rw[Qez,j7,List.length_map];have:(Q4 (tAt ts k)).length<=3:=Zj _ 3;omega
theorem Zt {ts:List T3} {i:Nat} (h:i<ts.length):ts[i]?=some (tAt ts i):=by unfold tAt;rw[q9 h];rfl
theorem mem_allP {ts:List T3} {e:P2} {v:Int}:(e,v)∈Q18 ts ts.length↔∃j,j<ts.length/\v=(j:Int)/\∃a∈Q4 (tAt ts j),a.und=e:=by
 unfold Q18;rw[jr];constructor
 ·rintro⟨j,hj,h⟩;obtain⟨a,ha,h2⟩:=qo.1 h;simp only[Prod.mk.injEq]at h2;exact⟨j,qz.1 hj,h2.2.symm,a,ha,h2.1⟩
 ·rintro⟨j,hj,rfl,a,ha,rfl⟩;exact⟨j,qz.2 hj,qo.2 ⟨a,ha,rfl⟩⟩
theorem adj_us {ts:List T3} {i j:Nat} (hi:i<ts.length):adjI ts i j↔∃e∈Q4 (tAt ts i),(j:Int)∈usL (Q18 ts ts.length) e.und:=by
 constructor
 ·rintro⟨s,t,hs,ht,a,ha,b,hb,hab⟩;have hj:=(q8.1 ht).1;rw[Zt hi]at hs
  rw[Zt hj]at ht
  obtain rfl:=Option.some.inj hs;obtain rfl:=Option.some.inj ht;exact⟨a,ha,mem_usL.2 (mem_allP.2 ⟨j,hj,rfl,b,hb,hab.symm⟩)⟩
 ·rintro⟨a,ha,h⟩;obtain⟨j',hj,hjj,b,hb,hab⟩:=mem_allP.1 (mem_usL.1 h);obtain rfl:j=j':=by omega
  exact⟨_,_,Zt hi,Zt hj,a,ha,b,hb,hab.symm⟩
structure Part (ts:List T3) (D S:List Int) (i:Nat):Prop where
 nodup:(D++S).Nodup
 mem:∀v∈S,0<=v/\Conn ts i v.toNat
 start:(i:Int)∈S
structure Old (ts:List T3) (L:List Int) (D:List Int) (i:Nat):Prop where
 nodup:D.Nodup
 iff:∀v:Int,v∈D↔∃j:Nat,v=(j:Int)/\j<ts.length/\∃u,L[j]?=some u/\u<i
theorem Part.one {ts:List T3} {L D:List Int} {i:Nat} (h:Old ts L D i) (hi:i<ts.length) (hn:(i:Int)∉D):Part ts D [(i:Int)] i:=by
 refine⟨?_,λv hv=>?_,by simp⟩
 ·rw[List.nodup_append];exact⟨h.nodup,by simp,λa ha b hb=>by simp at hb;subst hb;rintro rfl;exact hn ha⟩
 ·simp at hv;subst hv;exact⟨by omega,by rw[Int.toNat_natCast];exact .refl hi⟩
theorem Part.add {ts:List T3} {D S:List Int} {i:Nat} (h:Part ts D S i) {v u:Int} (hv:v∈S) (hu:0<=u) (hadj:adjI ts v.toNat u.toNat) (hn:u∉D++S):Part ts D (S++[u]) i:=by
 refine⟨?_,λw hw=>?_,by simp[h.start]⟩
 ·rw[<- j6,List.nodup_append];exact⟨h.nodup,by simp,λa ha b hb=>by simp at hb;subst hb;rintro rfl;exact hn ha⟩
 ·rcases qg.1 hw with h1 | h1
  ·exact h.mem w h1
  ·simp at h1;subst h1;exact⟨hu,.tail (h.mem v hv).2 hadj⟩
theorem Part.all {ts:List T3} {L D S:List Int} {i:Nat} (hL:IsLab ts L) (hD:Old ts L D i) (h:Part ts D S i) (hi:i<ts.length) (hLi:L[i]?=some (i:Int))
  (hc:∀v∈S,∀j:Nat,adjI ts v.toNat j->(j:Int)∈D++S):∀v:Int,v∈S↔v∈shK L i ts.length:=by
 have hnd:∀j:Nat,Conn ts i j->(j:Int)∉D:=by
  intro j hj hd;obtain⟨j',h1,h2,u,h3,h4⟩:=(hD.iff _).1 hd;obtain rfl:j=j':=by omega
  have:=hL.conn hj;rw[hLi,h3]at this
  have:=Option.some.inj this;omega
 have hclo:∀j,Conn ts i j->(j:Int)∈S:=by
  intro j hj;generalize hii:i=i' at hj
  induction hj with
  | refl _=>subst hii;exact h.start
  | tail h1 h2 ih =>
    subst hii;have:=hc _ ih _ (by rw[Int.toNat_natCast];exact h2);rcases qg.1 this with h3 | h3
    ·exact absurd h3 (hnd _ (.tail h1 h2))
    ·exact h3
 intro v;unfold shK;rw[qo];constructor
 ·intro hv;obtain⟨h1,h2⟩:=h.mem v hv;have hlt:=h2.lt.2;refine⟨v.toNat,qu.2 ⟨qz.2 hlt,?_⟩,by omega⟩;have:=hL.conn h2;rw[hLi]at this
  simpa using this.symm
 ·rintro⟨j,hj,rfl⟩;have hf:=qu.1 hj;have hjl:=qz.1 hf.1;have hLj:L[j]?=some (i:Int):=by simpa using hf.2
  exact hclo j ((hL.conn_iff hi hjl).2 (by rw[hLi,hLj]))
theorem Quy {L S:List Int} {i n:Nat} (hn:S.Nodup) (hm:∀v:Int,v∈S↔v∈shK L i n):Zn S=shK L i n:=by
 have hsh:(shK L i n).Pairwise λa b=>a<b:=by
  unfold shK;rw[ji];have h1:(List.range n).Pairwise (λa b:Nat=>a<b):=List.pairwise_lt_range;exact(h1.filter _).imp λ{a b:Nat} (h:a<b)=>by show (a:Int)<(b:Int);omega
 have hso:(Zn S).Pairwise λa b=>a<=b:=by
  have:=List.pairwise_mergeSort (le:=λx y:Int=>decide (x<=y)) (λa b c h1 h2=>by simp at *;omega) (λa b=>by simp;omega) S;exact this.imp λ{a b} h=>by simpa using h
 have hp:(Zn S).Perm S:=List.mergeSort_perm _ _;have hnd:(Zn S).Nodup:=hp.nodup_iff.2 hn;have hlt:(Zn S).Pairwise λa b=>a<b:=by
  rw[List.nodup_iff_pairwise_ne]at hnd
  exact(hso.and hnd).imp λ{a b} h=>by obtain⟨h1,h2⟩:=h;omega
 have hmm:∀v,v∈Zn S↔v∈shK L i n:=λv=>by rw[hp.mem_iff,hm]
 generalize Zn S=A at *
 generalize shK L i n=B at *
 clear hp hnd hso hm hn
 induction A generalizing B with
 | nil =>
   cases B with
   | nil=>rfl
   | cons b B=>have:=(hmm b).2 (by simp);simp at this
 | cons a A ih =>
   cases B with
   | nil=>have:=(hmm a).1 (by simp);simp at this
   | cons b B =>
     obtain⟨a1,a2⟩:=jd.1 hlt;obtain⟨b1,b2⟩:=jd.1 hsh;have hab:a=b:=by
      rcases List.mem_cons.1 ((hmm a).1 (by simp)) with h | h
      ·exact h
      ·rcases List.mem_cons.1 ((hmm b).2 (by simp)) with h' | h'
       ·exact h'.symm
       ·have:=b1 a h;have:=a1 b h';omega
     subst hab;rw[ih a2 B b2 λv=>?_];constructor
     ·intro hv;rcases List.mem_cons.1 ((hmm v).1 (by simp[hv])) with h | h
      ·subst h;have:=a1 v hv;omega
      ·exact h
     ·intro hv;rcases List.mem_cons.1 ((hmm v).2 (by simp[hv])) with h | h
      ·subst h;have:=b1 v hv;omega
      ·exact h
theorem Old.next {ts:List T3} {L D S:List Int} {i:Nat} (hL:IsLab ts L) (hD:Old ts L D i) (h:(D++S).Nodup) (hS:∀v:Int,v∈S↔v∈shK L i ts.length):Old ts L (D++S) (i+1) where
 nodup:=h
 iff v:=by
  rw[qg,hD.iff,hS];unfold shK;rw[qo];constructor
  ·rintro (⟨j,h1,h2,u,h3,h4⟩ | ⟨j,hj,rfl⟩)
   ·exact⟨j,h1,h2,u,h3,by omega⟩
   ·have hf:=qu.1 hj;exact⟨j,rfl,qz.1 hf.1,i,by simpa using hf.2,by omega⟩
  ·rintro⟨j,rfl,h2,u,h3,h4⟩;by_cases hu:u<i
   ·exact .inl ⟨j,rfl,h2,u,h3,hu⟩
   ·have:u=i:=by omega
    subst this;exact .inr ⟨j,qu.2 ⟨qz.2 h2,by simpa using h3⟩,rfl⟩
theorem Old.skip {ts:List T3} {L D:List Int} {i:Nat} (hL:IsLab ts L) (hD:Old ts L D i) (hd:(i:Int)∈D):Old ts L D (i+1)/\L[i]? ≠ some (i:Int):=by
 obtain⟨j,h1,h2,u,h3,h4⟩:=(hD.iff _).1 hd;obtain rfl:i=j:=by omega
 have hne:L[i]? ≠ some (i:Int):=by rw[h3];intro hh;have:=Option.some.inj hh;omega
 refine⟨⟨hD.nodup,λv=>?_⟩,hne⟩;rw[hD.iff];constructor
 ·rintro⟨j,k1,k2,w,k3,k4⟩;exact⟨j,k1,k2,w,k3,by omega⟩
 ·rintro⟨j,k1,k2,w,k3,k4⟩;refine⟨j,k1,k2,w,k3,?_⟩;refine jb λhw=>?_
  have hwi:w=i:=by omega
  subst hwi;have:=hL.conn ((hL.con j _ k3).2.2);rw[k3,Int.toNat_natCast]at this
  exact hne this.symm
theorem Old.own {ts:List T3} {L D:List Int} {i:Nat} (hL:IsLab ts L) (hD:Old ts L D i) (hi:i<ts.length) (hd:(i:Int)∉D):L[i]?=some (i:Int):=by
 have h1:L[i]?=some (L[i]'(by rw[hL.len];exact hi)):=q9 _;generalize L[i]'(by rw[hL.len];exact hi)=u at h1;have h2:=(hL.con i u h1).2.1;by_cases h:u=i
 ·rw[h1,h]
 ·exact absurd ((hD.iff _).2 ⟨i,rfl,hi,u,h1,by omega⟩) hd
def evU (p:Nat × Nat):V:=.own (p.1+2) p.2 0 p.2
structure UM (hx:List O) (KJ:List (P2 × (Nat × Nat))) (Q:List (P2 × Int)):Prop where
 val:∀(i:Nat) (k:P2) (j n:Nat),KJ[i]?=some (k,(j,n))->n=(usL Q k).length/\hx[j]?=some (.arr n 1 (ics (usL Q k)))
 dis:∀(i i':Nat) (k k':P2) (j n n':Nat),KJ[i]?=some (k,(j,n))->KJ[i']?=some (k',(j,n'))->i=i'
 key:(KJ.map Prod.fst).Nodup
 none:∀e,Zf e KJ=none->usL Q e=[]
theorem UM.nil:UM [] [] []:=⟨by simp,by simp,by simp,by simp[usL]⟩
theorem UM.app {hx:List O} {KJ:List (P2 × (Nat × Nat))} {Q:List (P2 × Int)} (h:UM hx KJ Q) (l:List O):UM (hx++l) KJ Q :=
 ⟨λi k j n hi=>by obtain⟨h1,h2⟩:=h.val i k j n hi;exact⟨h1,by rw[qd (q8.1 h2).1];exact h2⟩,h.dis,h.key,h.none⟩
theorem UM.new {hx:List O} {KJ:List (P2 × (Nat × Nat))} {Q:List (P2 × Int)} (h:UM hx KJ Q) {e:P2} {v:Int} (he:Zf e KJ=Option.none) {l:List O} {j0:Nat} (hj:hx.length<=j0) (ho:(hx++l)[j0]?=some (.arr 1 1 (ics [v]))) :
  UM (hx++l) (KJ++[(e,(j0,1))]) (Q++[(e,v)]):=by
 have hn:=h.none e he;have hk:=fndG_none.1 he;have hval:∀(i:Nat) (k:P2) (j n:Nat),(KJ++[(e,(j0,1))])[i]?=some (k,(j,n))->(i<KJ.length/\KJ[i]?=some (k,(j,n))/\k≠e/\j<hx.length)∨(i=KJ.length/\k=e/\j=j0/\n=1):=by
  intro i k j n hi;by_cases hl:i<KJ.length
  ·rw[qd hl]at hi
   refine .inl ⟨hl,hi,?_,(q8.1 (h.val i k j n hi).2).1⟩;rintro rfl;exact hk (qo.2 ⟨_,qb hi,rfl⟩)
  ·rw[qf (by omega)]at hi
   have h0:i-KJ.length=0:=by
    have:=(q8.1 hi).1;simp at this;omega
   rw[h0]at hi
   simp at hi;exact .inr ⟨by omega,hi.1.symm,hi.2.1.symm,hi.2.2.symm⟩
 refine⟨λi k j n hi=>?_,λi i' k k' j n n' h1 h2=>?_,?_,λa ha=>?_⟩
 ·rcases hval i k j n hi with⟨_,h1,h2,_⟩ | ⟨_,rfl,rfl,rfl⟩
  ·have:=(h.app l).val i k j n h1;rw[Wt,if_neg (λhh=>h2 hh.symm)];exact this
  ·rw[Wt,if_pos rfl,hn];exact⟨rfl,ho⟩
 ·rcases hval i k j n h1 with⟨_,a1,_,a2⟩ | ⟨a1,_,a2,_⟩<;>rcases hval i' k' j n' h2 with⟨_,b1,_,b2⟩ | ⟨b1,_,b2,_⟩
  ·exact h.dis i i' k k' j n n' a1 b1
  ·omega
  ·omega
  ·omega
 ·rw[qx,List.nodup_append];exact⟨h.key,by simp,λa ha b hb=>by simp at hb;subst hb;rintro rfl;exact hk ha⟩
 ·have hne:a≠e:=by
   rintro rfl;rw[I4 he,if_pos rfl]at ha;simp at ha
  rw[I4 he,if_neg hne]at ha
  rw[Wt,if_neg (λhh=>hne hh.symm)];exact h.none a ha
theorem UM.old {hx:List O} {KJ:List (P2 × (Nat × Nat))} {Q:List (P2 × Int)} (h:UM hx KJ Q) {e:P2} {v:Int} {p j n:Nat} (he:Zf e KJ=some (p,(j,n))) :
  UM (hx.set j (.arr (n+1) 1 (ics (usL Q e)++[[.i .i64 v]]))) (KJ.set p (e,(j,n+1))) (Q++[(e,v)]):=by
 have hp:=Y7 he;have hpl:=(q8.1 hp).1;obtain⟨hn,hj⟩:=h.val p e j n hp;have hjl:=(q8.1 hj).1;have hval:∀(i:Nat) (k:P2) (j' n':Nat),(KJ.set p (e,(j,n+1)))[i]?=some (k,(j',n'))->(i≠p/\KJ[i]?=some (k,(j',n'))/\k≠e/\j'≠j)∨(i=p/\k=e/\j'=j/\n'=n+1):=by
  intro i k j' n' hi;by_cases hip:p=i
  ·subst hip;rw[qm hpl]at hi
   simp at hi;exact .inr ⟨rfl,hi.1.symm,hi.2.1.symm,hi.2.2.symm⟩
  ·rw[qt hip]at hi
   refine .inl ⟨λhh=>hip hh.symm,hi,?_,?_⟩
   ·rintro rfl;have:=Xj h.key hi;rw[he]at this
    simp at this;exact hip this.1
   ·rintro rfl;exact hip (h.dis p i _ _ _ _ _ hp hi)
 refine⟨λi k j' n' hi=>?_,λi i' k k' j' n1 n2 h1 h2=>?_,?_,λa ha=>?_⟩
 ·rcases hval i k j' n' hi with⟨_,h1,h2,h3⟩ | ⟨rfl,rfl,rfl,rfl⟩
  ·rw[Wt,if_neg (λhh=>h2 hh.symm),qt (λhh=>h3 hh.symm)];exact h.val i k j' n' h1
  ·rw[Wt,if_pos rfl,qm hjl];exact⟨by rw[hn];simp,by simp[ics]⟩
 ·rcases hval i k j' n1 h1 with⟨a0,a1,_,a2⟩ | ⟨a1,_,a2,_⟩<;>rcases hval i' k' j' n2 h2 with⟨b0,b1,_,b2⟩ | ⟨b1,_,b2,_⟩
  ·exact h.dis i i' k k' j' n1 n2 a1 b1
  ·exact absurd b2 a2
  ·exact absurd a2 b2
  ·omega
 ·have:(KJ.set p (e,(j,n+1))).map Prod.fst=KJ.map Prod.fst:=by
   rw[List.map_set];apply qy;intro i;by_cases hi:p=i
   ·subst hi;rw[qm (by simpa using hpl),qp,hp];rfl
   ·rw[qt hi]
  rw[this];exact h.key
 ·rw[Q2n he]at ha
  split at ha
  ·simp at ha
  ·rename_i hne;rw[Wt,if_neg (λhh=>hne hh.symm)];exact h.none a ha
theorem UM.cl {hx:List O} {KJ:List (P2 × (Nat × Nat))} {Q:List (P2 × Int)} (h:UM hx KJ Q) {N:Nat} (hN:hx.length+2<=N):∀e∈KJ.map (asG P2.enc evU),e.1.cl N=true/\e.2.cl N=true:=by
 intro x hx';obtain⟨⟨k,j,n⟩,hm,rfl⟩:=qo.1 hx';obtain⟨i,hi⟩:=qq hm;have:=(q8.1 (h.val i k j n hi).2).1;refine⟨?_,?_⟩
 ·simp[asG,P2.enc,P2.cs,V.cl,V.cl1,V.cl0]
 ·simp[asG,evU,V.cl,V.cl1,V.cl0];omega
theorem Flt.set {hx:List O} (h:Flt hx) {j:Nat} {o:O} (ho:∀n,o.cl n):Flt (hx.set j o):=λx hx' n=>by
 rcases List.mem_or_eq_of_mem_set hx' with h1 | rfl
 ·exact h x h1 n
 ·exact ho n
def Qbi (P:Program) (f:FuncId):Prop:=∀(m:Mesh) (L:List Int),m.check=0->PreLab m.tris L ->
 CallIs P f [m.enc,isV L] (.t [isV (J4 m.tris L m.tris.length),.b (decide (J4 m.tris L m.tris.length≠L))])
theorem Qjt {K:List P2} {g g':P2->Int} (h:∀e∈K,g e=g' e):lw K g=lw K g':=by
 unfold lw;exact jv λe he=>by rw[h e he]
theorem Qan {K:List P2} (h:asc K) (g g':P2->Int) {i:Nat} {e:P2} (he:K[i]?=some e) (hg:∀a∈K,a≠e->g' a=g a) {n:Int} (hn:n=g' e) :
  ((lw K g).map uCs).set i [.i .i64 e.x,.i .i64 e.y,.i .i64 n]=(lw K g').map uCs:=by
 subst hn;rw[<- lw_set h g g' he hg,List.map_set];rfl
def gK (K:List P2) (n:Int) (k:Nat) (e:P2):Int:=if K.idxOf e<k then n else 0
theorem take_ne {α:Type} [DecidableEq α] {K L:List α} {k:Nat} {a b:α} (hk:K.length=k) (hL:L[k]?=some b):decide (K++[a]≠L.take (k+1))=(decide (K≠L.take k) || decide (a≠b)):=by
 rw[Q6 hL];have hlt:=(q8.1 hL).1;have hl:K.length=(L.take k).length:=by simp;omega
 rw[Bool.eq_iff_iff];simp only[decide_eq_true_eq,Bool.or_eq_true,ne_eq];constructor
 ·intro h;by_cases h1:K=L.take k
  ·right;rintro rfl;exact h (by rw[h1])
  ·exact .inl h1
 ·rintro (h | h) hh
  ·exact h (List.append_inj_left hh hl)
  ·have:=List.append_inj_right hh hl;simp at this;exact h this
section
variable {P:Program} (hm:P.follows .mixedOrders=true)
include hm
theorem Q68 {f fu fd fv fp fn:FuncId} (hf:Q5 P f (L1m.c fu fd fv fp fn) L1m.r L1m.n) (hu:Qnt P fu) (hd:Xf P fd) (hv:Qnu P fv) (hp:Q52 P fp) (hn:Q86 P fn):Qbi P f:=by
 intro m L hz hL;refine PI hm hf ?_;unfold L1m.c;have hl:=(Mesh.check_zero.1 hz).2.1;have hu1:=hu m hz;rw[undL_lw]at hu1
 have hKa:asc (Jv ((Q7 m.tris).map P2.und)):=Jc _;have hKm:∀i,i<m.tris.length->∀e∈Q4 (tAt m.tris i),e.und∈Jv ((Q7 m.tris).map P2.und):=by
  intro i hi e he;rw[mem_ascOf,qo];have:m.tris[i]?=some (tAt m.tris i):=by unfold tAt;rw[q9 hi];rfl
  exact⟨e,jr.2 ⟨_,qb this,he⟩,rfl⟩
 have hKl:(Jv ((Q7 m.tris).map P2.und)).length<=12288:=by
  have:=@Qnd m;unfold Mesh.edgesL at this
  rwa [if_pos hz]at this
 have hLl:=hL.len;have hLb:∀i,i<m.tris.length->L[i]?=some (lAt L i):=λi hi=>by unfold lAt;rw[q9 (by omega)];rfl
 generalize Jv ((Q7 m.tris).map P2.und)=K at *
 have hKn:K.Nodup:=hKa.imp λh1 h2=>by subst h2;exact P2.lt_irrefl _ h1
 simp only[Qao]at hu1;simp[go_sem,Mesh.enc,Mesh.cs,isV];refine Q56 hu1 rfl ?_;simp only[List.map_cons,List.map_nil,sh_uCs];have hll:=λg=>Qao K g
 simp[go_sem,hll];have hg0:lw K (λ_=>0)=lw K (gK K L.length 0):=Qjt λe _=>by simp[gK]
 rw[hg0];refine Q8 (α:=Nat) (λk=>k<=K.length)
  (λk=>⟨[(1,isV L),(2,.p 0 1 0 0),(6,.own 2 (K.length+1) 0 K.length),(22,.own 2 (K.length+1) 0 K.length),(23,.i .i64 K.length),(24,.i .i64 k)],[.arr 1 2 [m.cs],.dead,.arr (K.length+1) 3 ((lw K (gK K L.length k)).map uCs)]⟩)
  (λk=>K.length-k) 0 (Nat.zero_le _) ?_ ?_
 ·simp[go_sem,isV,Mesh.cs,vsV,tsV];exact Zs _ _
 ·intro k hk;by_cases hkl:k=K.length
  ·subst hkl;have hg1:lw K (gK K L.length K.length)=lw K (Z6 L.length (Xc m.tris L 0)):=Qjt λe he=>by
    have:=List.idxOf_lt_length_iff.2 he;simp[gK,this,Xc,Z6]
   rw[hg1];simp[go_sem,isV,Mesh.cs,tsV];refine Q8 (α:=Nat) (λk=>k<=m.tris.length)
    (λk=>⟨[(1,isV L),(2,.p 0 1 0 0),(6,.own 2 (K.length+1) 0 K.length),(35,tsV m.tris),(36,.i .i64 m.tris.length),(37,.i .i64 k)],[.arr 1 2 [m.cs],.dead,.arr (K.length+1) 3 ((lw K (Z6 L.length (Xc m.tris L k))).map uCs)]⟩)
    (λk=>m.tris.length-k) 0 (Nat.zero_le _) ?_ ?_
   ·simp[go_sem,isV,Mesh.cs,vsV,tsV];exact Zs _ _
   ·intro i hi;by_cases hil:i=m.tris.length
    ·subst hil;have hgo:Z6 L.length (Xc m.tris L m.tris.length)=gOf m.tris L:=rfl;rw[hgo];simp[go_sem,isV,Mesh.cs,tsV];refine Qi [.t 13 1] (α:=Nat) (λk=>k<=m.tris.length)
      (λk=>⟨[(1,isV L),(6,.own 2 (K.length+1) 0 K.length),(13,.own 3 (k+1) 0 k),(14,.b (decide (J4 m.tris L k≠L.take k))),(70,tsV m.tris),(71,.i .i64 m.tris.length),(72,.i .i64 k)],[.dead,.dead,.arr (K.length+1) 3 ((lw K (gOf m.tris L)).map uCs),.arr (k+1) 1 (ics (J4 m.tris L k))]⟩)
      (λk=>m.tris.length-k) 0 (Nat.zero_le _) ?_ ?_
     ·simp[go_sem,isV,tsV,J4,ics];exact Zs _ _
     ·intro k hk;by_cases hkl:k=m.tris.length
      ·subst hkl;have hlt2:L.take m.tris.length=L:=qe (by omega);have hsl:=Q8k m.tris L m.tris.length;have htk:List.take m.tris.length (ics (J4 m.tris L m.tris.length))=ics (J4 m.tris L m.tris.length):=qe (by simp[ics,hsl]);rw[hlt2];generalize J4 m.tris L m.tris.length=S at *
       simp[go_sem,isV,tsV,L1m.r,htk];rw[if_pos ⟨by simp[ics,hsl],Q7x S⟩];rfl
      ·have hlt:k<m.tris.length:=by omega
       have hp3:m.tris[k]?=some (tAt m.tris k):=by unfold tAt;rw[q9 hlt];rfl
       have hLi:=hLb k hlt;have hss:=Qqu m.tris L k;have hsl:=Q8k m.tris L k;have hkm:=hKm k hlt;generalize tAt m.tris k=t at *
       obtain⟨_,hp'⟩:=q8.1 hp3;obtain⟨_,hLi'⟩:=q8.1 hLi;generalize lAt L k=v at hLi hLi' hss;have htn:=take_ne (a:=W5 (gOf m.tris L) (Q4 t) v) hsl hLi;rw[<- hss]at htn
       have htkk:List.take k (ics (J4 m.tris L k))=ics (J4 m.tris L k):=qe (by simp[ics,hsl]);have hnum:∀e∈Q4 t,CallIs P fn [Jz (lw K (gOf m.tris L)),e.und.enc] (.i .i64 (gOf m.tris L e.und)):=λe he=>by
        have:=hn (lw K (gOf m.tris L)) e.und (Qgq hKa _) (by rw[hll];omega)
        rwa [lw_num hKa _ (hkm e he)]at this
       have hic:ics (J4 m.tris L (k+1))=ics (J4 m.tris L k)++[[.i .i64 (W5 (gOf m.tris L) (Q4 t) v)]]:=by rw[hss];simp[ics]
       generalize gOf m.tris L=g at *
       generalize hag:decide (J4 m.tris L k≠List.take k L)=ag at *
       simp[go_sem,isV,tsV,hlt,hp3,hp',tcs,hLi,hLi',show k<L.length by omega];refine Q2 (hd t) ?_;have hlen:(Q4 t).length<=3:=Zj t 3;simp[go_sem,psV];generalize hS:J4 m.tris L k=S at *
       refine Q8 (α:=Nat) (λj=>j<=(Q4 t).length)
        (λj=>⟨[(1,isV L),(6,.own 2 (K.length+1) 0 K.length),(13,.own 3 (k+1) 0 k),(14,.b ag),(15,.i .i64 k),(17,.i .i64 (W5 g ((Q4 t).take j) v)),(70,tsV m.tris),(71,.i .i64 m.tris.length),(72,.i .i64 k),(82,psV (Q4 t)),(83,.i .i64 (Q4 t).length),(84,.i .i64 j)],
         [.dead,.dead,.arr (K.length+1) 3 ((lw K g).map uCs),.arr (k+1) 1 (ics S)]⟩)
        (λj=>(Q4 t).length-j) 0 (Nat.zero_le _) ?_ ?_
       ·simp[go_sem,isV,tsV,psV,W5];exact⟨Zs _ _,Xu _ _⟩
       ·intro j hj;by_cases hjl:j=(Q4 t).length
        ·subst hjl;rw[qi];generalize W5 g (Q4 t) v=u at *
         cases ag
         ·simp (disch:=omega) [go_sem,isV,tsV,psV,Q0,hLi,hLi',show k<L.length by omega,htkk];refine⟨⟨by simp[ics,hsl],by omega,by omega⟩,k+1,by omega,by omega,⟨rfl,?_,by simp⟩,Zs _ _,⟨rfl,hic.symm⟩,Xu _ _⟩;have h:=htn;simp only[Bool.false_or,ne_eq,decide_not]at h;rw[h];by_cases huv:u=v<;>simp[huv]
         ·simp (disch:=omega) [go_sem,isV,tsV,psV,Q0,hLi,hLi',show k<L.length by omega,htkk];exact⟨⟨by simp[ics,hsl],by omega,by omega⟩,k+1,by omega,by omega,⟨rfl,by simpa using htn,by simp⟩,Zs _ _,⟨rfl,hic.symm⟩,Xu _ _⟩
        ·have hjt:j<(Q4 t).length:=by omega
         have hq:(Q4 t)[j]?=some (Q4 t)[j]:=q9 hjt;have hne:=hnum _ (List.getElem_mem hjt);have hms:W5 g ((Q4 t).take (j+1)) v=min (W5 g ((Q4 t).take j) v) (g (Q4 t)[j].und):=by rw[Q6 hq,Qe7]
         generalize (Q4 t)[j]=e at hq hne hms;obtain⟨_,hq'⟩:=q8.1 hq;generalize W5 g ((Q4 t).take j) v=u at *
         generalize g e.und=ge at *
         simp[go_sem,isV,psV,hjt,hq,hq',pcs];refine Q2 (hv e) ?_;simp[go_sem,psV];refine Xg (vs:=[Jz (lw K g),e.und.enc]) ?_ (hne []) rfl ?_
         ·exact Up rfl (by simp[hll]) (Ud _) (by simp[Zh,frz,Ys,P2.enc,pcs])
         simp (disch:=omega) [go_sem,isV,psV,Q0,Wm];exact⟨j+1,by omega,by omega,⟨hms.symm,.inr rfl,by simp⟩,Zs _ _,Xu _ _⟩
    ·have hlt:i<m.tris.length:=by omega
     have hp3:m.tris[i]?=some (tAt m.tris i):=by unfold tAt;rw[q9 hlt];rfl
     have hLi:=hLb i hlt;have hps:=Qjj m.tris L i;have hkm:=hKm i hlt;generalize tAt m.tris i=t at *
     obtain⟨_,hp'⟩:=q8.1 hp3;obtain⟨_,hLi'⟩:=q8.1 hLi;generalize lAt L i=v at hLi hLi' hps;generalize hQ:Xc m.tris L i=Q at *
     simp[go_sem,isV,Mesh.cs,tsV,hlt,hp3,hp',tcs];refine Q2 (hd t) ?_;have hlen:(Q4 t).length<=3:=Zj t 3;simp[go_sem,psV];refine Q8 (α:=Nat) (λj=>j<=(Q4 t).length)
      (λj=>⟨[(1,isV L),(2,.p 0 1 0 0),(6,.own 2 (K.length+1) 0 K.length),(8,.i .i64 i),(35,tsV m.tris),(36,.i .i64 m.tris.length),(37,.i .i64 i),(43,psV (Q4 t)),(44,.i .i64 (Q4 t).length),(45,.i .i64 j)],
       [.arr 1 2 [m.cs],.dead,.arr (K.length+1) 3 ((lw K (Z6 L.length (Q++((Q4 t).take j).map λe=>(e.und,v)))).map uCs)]⟩)
      (λj=>(Q4 t).length-j) 0 (Nat.zero_le _) ?_ ?_
     ·simp[go_sem,isV,Mesh.cs,tsV,vsV,psV];exact Zs _ _
     ·intro j hj;by_cases hjl:j=(Q4 t).length
      ·subst hjl;rw[qi,<- hps];simp (disch:=omega) [go_sem,isV,Mesh.cs,tsV,vsV,psV,Q0];exact⟨i+1,by omega,by omega,by simp,rfl,Zs _ _⟩
      ·have hjt:j<(Q4 t).length:=by omega
       have hq:(Q4 t)[j]?=some (Q4 t)[j]:=q9 hjt;have hmem:=hkm _ (List.getElem_mem hjt);have htk:((Q4 t).take (j+1)).map (λe=>(e.und,v))=((Q4 t).take j).map (λe=>(e.und,v))++[((Q4 t)[j].und,v)]:=by rw[Q6 hq,qx];rfl
       generalize (Q4 t)[j]=e at hq hmem htk;obtain⟨_,hq'⟩:=q8.1 hq;obtain⟨p,hpk⟩:=qq hmem;have hsn:∀a,Z6 L.length (Q++((Q4 t).take (j+1)).map λe=>(e.und,v)) a=if a=e.und then min (Z6 L.length (Q++((Q4 t).take j).map λe=>(e.und,v)) a) v else Z6 L.length (Q++((Q4 t).take j).map λe=>(e.und,v)) a:=λa=>by
        rw[htk,<- j6,Q5e]
       have hset:=Qan hKa (Z6 L.length (Q++((Q4 t).take j).map λe=>(e.und,v))) (Z6 L.length (Q++((Q4 t).take (j+1)).map λe=>(e.und,v))) hpk (λa ha hne=>by rw[hsn,if_neg hne]) (n:=min (Z6 L.length (Q++((Q4 t).take j).map λe=>(e.und,v)) e.und) v) (by rw[hsn,if_pos rfl])
       have hnx:∀W,W=(lw K (Z6 L.length (Q++((Q4 t).take (j+1)).map λe=>(e.und,v)))).map uCs->∃x',x'<=(Q4 t).length/\(Q4 t).length-x'<(Q4 t).length-j/\(j:Int)+1=x'/\W=(lw K (Z6 L.length (Q++((Q4 t).take x').map λe=>(e.und,v)))).map uCs:=λW hW=>⟨j+1,by omega,by omega,by simp,hW⟩
       have hwg:=Q4d (Z6 L.length (Q++((Q4 t).take j).map λe=>(e.und,v))) hpk;have hwp:=lw_pl hKa (Z6 L.length (Q++((Q4 t).take j).map λe=>(e.und,v))) hpk;generalize Z6 L.length (Q++((Q4 t).take (j+1)).map λe=>(e.und,v))=g' at *
       generalize Z6 L.length (Q++((Q4 t).take j).map λe=>(e.und,v))=g at *
       obtain⟨hwl,hwg'⟩:=q8.1 hwg;have hpl:=(hp (lw K g) e.und (Qgq hKa g) (by rw[hll];omega)) [];rw[hwp]at hpl
       simp[go_sem,isV,psV,hjt,hq,hq',pcs];refine Q2 (hv e) ?_;simp[go_sem,psV];refine Xg (vs:=[Jz (lw K g),e.und.enc]) ?_ hpl rfl ?_
       ·exact Up rfl (by simp[hll]) (Ud _) (by simp[Zh,frz,Ys,P2.enc,pcs])
       simp (disch:=omega) [go_sem,isV,psV,hwg,hwg',hll,Q00,hLi,hLi',Q0,Wm,hset,show p<K.length by rw[hll]at hwl;exact hwl,show i<L.length by omega];obtain⟨x',q1,q2,q3,q4⟩:=hnx _ rfl;rw[List.map_take]at q4
       refine⟨x',q1,q2,⟨.inr rfl,q3⟩,?_,q4,Zs _ _⟩;intro x hx;simp[Mesh.cs]at hx
       rcases hx with rfl | rfl<;>rfl
  ·have hlt:k<K.length:=by omega
   have hq:K[k]?=some K[k]:=q9 hlt;generalize K[k]=e at hq;have hwg:=Q4d (gK K L.length k) hq;obtain⟨hwl,hwg'⟩:=q8.1 hwg;have hix:K.idxOf e=k:=by
    obtain⟨q1,q2⟩:=q8.1 hq;have:=hKn.idxOf_getElem k q1
    rwa [q2]at this
   have hset:=Qan hKa (gK K L.length k) (gK K L.length (k+1)) hq (λa ha hne=>by
    have hne2:K.idxOf a≠k:=λhh=>by
     have h1:=List.idxOf_lt_length_iff.2 ha;have h2:=List.getElem_idxOf h1;have h3:K[K.idxOf a]?=some a:=by rw[q9 h1,h2]
     rw[hh,hq]at h3
     exact hne (Option.some.inj h3).symm
    unfold gK;by_cases h:K.idxOf a<k
    ·rw[if_pos h,if_pos (by omega)]
    ·rw[if_neg h,if_neg (by omega)]) (n:=(L.length:Int)) (by simp[gK,hix])
   generalize gK K L.length k=g at *
   simp (disch:=omega) [go_sem,isV,Mesh.cs,hlt,hwg,hwg',hll,Q00,Q0,hset];exact⟨k+1,by omega,by omega,by simp,⟨rfl,rfl⟩,rfl,Zs _ _⟩
end
end Go.Abs
