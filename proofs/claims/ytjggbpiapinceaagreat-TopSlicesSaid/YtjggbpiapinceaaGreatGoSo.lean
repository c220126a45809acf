/- Part of the library on which the proof stands: an abstract machine, its values and its soundness against the model; or what functions of the program do to such values. -/
import Derived.Test.YtjggbpiapinceaaGreatGoSl
import Derived.Test.YtjggbpiapinceaaGreatAbsSS
import Derived.Test.YtjggbpiapinceaaGreatGoSet
set_option linter.unusedVariables false
set_option linter.unusedSimpArgs false
namespace Go.Abs
def X6 (n:Int) (Q:List (P2 × Int)) (e:P2):Int:=Q.foldl (λa p=>if p.1=e then min a p.2 else a) n
theorem Qdp (n:Int) (Q:List (P2 × Int)) (p:P2 × Int) (e:P2):X6 n (Q++[p]) e=if e=p.1 then min (X6 n Q e) p.2 else X6 n Q e:=by
 unfold X6
 rw[List.foldl_append]
 simp only[List.foldl_cons,List.foldl_nil]
 by_cases h:e=p.1
 ·rw[if_pos h,if_pos h.symm]
 ·rw[if_neg h,if_neg (λhh=>h hh.symm)]
theorem Q8y (n:Int) (Q:List (P2 × Int)) (e:P2):(X6 n Q e=n∨∃p∈Q,p.1=e/\p.2=X6 n Q e)/\∀p∈Q,p.1=e->X6 n Q e<=p.2:=by
 have key:∀k,k<=Q.length->((X6 n (Q.take k) e=n∨∃p∈Q.take k,p.1=e/\p.2=X6 n (Q.take k) e)/\∀p∈Q.take k,p.1=e->X6 n (Q.take k) e<=p.2)/\X6 n (Q.take k) e<=n:=by
  intro k
  induction k with
  | zero=>intro _;exact⟨⟨.inl rfl,by simp⟩,Int.le_refl _⟩
  | succ k ih =>
    intro hk
    obtain⟨⟨h1,h2⟩,h3⟩:=ih (by omega)
    have hp:Q[k]?=some Q[k]:=q9 (by omega)
    rw[Qd hp,Qdp]
    generalize Q[k]=q at *
    by_cases h:e=q.1
    ·rw[if_pos h]
     refine⟨⟨?_,λp hpm hpe=>?_⟩,by omega⟩
     ·by_cases hle:X6 n (Q.take k) e<=q.2
      ·rw[Int.min_eq_left hle]
       rcases h1 with h1 | ⟨p,hpm,h4⟩
       ·exact .inl h1
       ·exact .inr ⟨p,qg.2 (.inl hpm),h4⟩
      ·rw[Int.min_eq_right (by omega)]
       exact .inr ⟨q,qg.2 (.inr (by simp)),h.symm,rfl⟩
     ·rcases qg.1 hpm with hh | hh
      ·have:=h2 p hh hpe;omega
      ·simp at hh;subst hh;omega
    ·rw[if_neg h]
     refine⟨⟨?_,λp hpm hpe=>?_⟩,h3⟩
     ·rcases h1 with h1 | ⟨p,hpm,h4⟩
      ·exact .inl h1
      ·exact .inr ⟨p,qg.2 (.inl hpm),h4⟩
     ·rcases qg.1 hpm with hh | hh
      ·exact h2 p hh hpe
      ·simp at hh;subst hh;exact absurd hpe.symm h
 have:=(key Q.length (Nat.le_refl _)).1
 rwa [qi]at this
def lAt (L:List Int) (i:Nat):Int:=(L[i]?).getD 0
def tAt (ts:List T3) (i:Nat):T3:=(ts[i]?).getD ⟨0,0,0⟩
def Iz (ts:List T3) (L:List Int) (k:Nat):List (P2 × Int):=(List.range k).flatMap λi=>(Q6 (tAt ts i)).map λe=>(e.und,lAt L i)
def Q0h (g:P2->Int) (l:List P2) (v:Int):Int:=l.foldl (λa e=>min a (g e.und)) v
theorem Qlr (g:P2->Int) (l:List P2) (e:P2) (v:Int):Q0h g (l++[e]) v=min (Q0h g l v) (g e.und):=by unfold Q0h;rw[List.foldl_append];rfl
theorem Qj6 (g:P2->Int) (l:List P2) (v:Int):(Q0h g l v=v∨∃e∈l,g e.und=Q0h g l v)/\Q0h g l v<=v/\∀e∈l,Q0h g l v<=g e.und:=by
 refine Eh (p:=λl=>(Q0h g l v=v∨∃e∈l,g e.und=Q0h g l v)/\Q0h g l v<=v/\∀e∈l,Q0h g l v<=g e.und) ?_ ?_ l
 ·exact⟨.inl rfl,Int.le_refl _,by simp⟩
 ·rintro E x ⟨h1,h2,h3⟩
  rw[Qlr]
  refine⟨?_,by omega,λe he=>?_⟩
  ·by_cases hle:Q0h g E v<=g x.und
   ·rw[Int.min_eq_left hle]
    rcases h1 with h1 | ⟨e,he,h4⟩
    ·exact .inl h1
    ·exact .inr ⟨e,by simp[he],h4⟩
   ·rw[Int.min_eq_right (by omega)]
    exact .inr ⟨x,by simp,rfl⟩
  ·rcases qg.1 he with h | h
   ·have:=h3 e h;omega
   ·simp at h;subst h;omega
def gOf (ts:List T3) (L:List Int):P2->Int:=X6 L.length (Iz ts L ts.length)
def Qkt (ts:List T3) (L:List Int) (k:Nat):List Int:=(List.range k).map λi=>Q0h (gOf ts L) (Q6 (tAt ts i)) (lAt L i)
theorem Qon (ts:List T3) (L:List Int) (k:Nat):(Qkt ts L k).length=k:=by simp[Qkt]
theorem pairs_mem {ts:List T3} {L:List Int} {k:Nat} {p:P2 × Int}:p∈Iz ts L k↔∃i<k,∃e∈Q6 (tAt ts i),p=(e.und,lAt L i):=by
 unfold Iz
 rw[jm]
 constructor
 ·rintro⟨i,hi,h⟩
  obtain⟨e,he,rfl⟩:=qp.1 h
  exact⟨i,qz.1 hi,e,he,rfl⟩
 ·rintro⟨i,hi,e,he,rfl⟩
  exact⟨i,qz.2 hi,qp.2 ⟨e,he,rfl⟩⟩
theorem Q9v {ts:List T3} {L:List Int} (h:PreLab ts L):Spread ts L (Qkt ts L ts.length):=by
 have hget:∀i v,(Qkt ts L ts.length)[i]?=some v->i<ts.length/\v=Q0h (gOf ts L) (Q6 (tAt ts i)) (lAt L i):=by
  intro i v hv
  unfold Qkt at hv
  rw[qq,qa]at hv
  obtain⟨j,hj,rfl⟩:=hv
  obtain⟨h1,h2⟩:=q8.1 hj
  simp at h1 h2
  subst h2
  exact⟨h1,rfl⟩
 have hL:∀i,i<ts.length->L[i]?=some (lAt L i):=λi hi=>by
  unfold lAt;rw[q9 (by rw[h.len];exact hi)];rfl
 have hT:∀i,i<ts.length->ts[i]?=some (tAt ts i):=λi hi=>by
  unfold tAt;rw[q9 hi];rfl
 have hadj:∀i j e e',i<ts.length->j<ts.length->e∈Q6 (tAt ts i)->e'∈Q6 (tAt ts j)->e.und=e'.und->near ts i j:=λi j e e' hi hj he he' hu =>
  .inr ⟨_,_,hT i hi,hT j hj,e,he,e',he',hu⟩
 refine⟨Qon _ _ _,λi v hv=>?_,λi j v u hv hn hu=>?_⟩
 ·obtain⟨hi,rfl⟩:=hget i v hv
  obtain⟨m1,m2,m3⟩:=Qj6 (gOf ts L) (Q6 (tAt ts i)) (lAt L i)
  rcases m1 with m1 | ⟨e,he,m1⟩
  ·exact⟨i,.inl rfl,by rw[m1];exact hL i hi⟩
  ·obtain⟨l1,l2⟩:=Q8y L.length (Iz ts L ts.length) e.und
   rcases l1 with l1 | ⟨p,hp,l1,l3⟩
   ·exfalso
    have h1:=l2 (e.und,lAt L i) (pairs_mem.2 ⟨i,hi,e,he,rfl⟩) rfl
    have h2:=(h.con i _ (hL i hi)).2.1
    have h3:=h.len
    simp only at h1
    omega
   ·obtain⟨j,hj,e',he',rfl⟩:=pairs_mem.1 hp
    refine⟨j,hadj i j e e' hi hj he he' l1.symm,?_⟩
    rw[<- m1]
    show L[j]?=some (X6 L.length (Iz ts L ts.length) e.und)
    rw[<- l3]
    exact hL j hj
 ·obtain⟨hi,rfl⟩:=hget i v hv
  obtain⟨m1,m2,m3⟩:=Qj6 (gOf ts L) (Q6 (tAt ts i)) (lAt L i)
  rcases hn with rfl | ⟨s,t,hs,ht,a,ha,b,hb,hab⟩
  ·rw[hL _ hi]at hu
   obtain rfl:=Option.some.inj hu
   exact m2
  ·have hj:=(q8.1 ht).1
   rw[hT i hi]at hs
   rw[hT j hj]at ht
   obtain rfl:=Option.some.inj hs
   obtain rfl:=Option.some.inj ht
   rw[hL j hj]at hu
   obtain rfl:=Option.some.inj hu
   have h1:=m3 a ha
   have h2:=(Q8y L.length (Iz ts L ts.length) a.und).2 (b.und,lAt L j) (pairs_mem.2 ⟨j,hj,b,hb,rfl⟩) hab.symm
   have h3:gOf ts L a.und=X6 L.length (Iz ts L ts.length) a.und:=rfl
   simp only at h2
   omega
theorem Up (ts:List T3):∃L,IsLab ts L:=by
 have key:∀(n:Nat) (L:List Int),PreLab ts L->Qcp L<n->∃K,IsLab ts K:=by
  intro n
  induction n with
  | zero=>intro L _ h;omega
  | succ n ih =>
    intro L hL hn
    by_cases h:Qkt ts L ts.length=L
    ·exact⟨L,Spread.fix hL (by have:=Q9v hL;rwa [h]at this)⟩
    ·have:=(Q9v hL).sum hL h
     exact ih _ (hL.spread (Q9v hL)) (by omega)
 exact key (Qcp ((List.range ts.length).map λ(j:Nat)=>(j:Int))+1) _ (pre_id ts) (by omega)
theorem IsLab.conn_iff {ts:List T3} {L:List Int} (h:IsLab ts L) {i j:Nat} (hi:i<ts.length) (hj:j<ts.length):Conn ts i j↔L[i]?=L[j]?:=by
 constructor
 ·exact h.conn
 ·intro he
  have h1:L[i]?=some (L[i]'(by rw[h.len];exact hi)):=q9 _
  have h2:=h1
  rw[he]at h2
  exact((h.con i _ h1).2.2).trans ((h.con j _ h2).2.2).symm
def usL (Q:List (P2 × Int)) (e:P2):List Int:=(Q.filter λp=>decide (p.1=e)).map Prod.snd
theorem Ku (Q:List (P2 × Int)) (p:P2 × Int) (e:P2):usL (Q++[p]) e=if p.1=e then usL Q e++[p.2] else usL Q e:=by
 unfold usL
 rw[List.filter_append,qx]
 by_cases h:p.1=e<;>simp[h]
theorem mem_usL {Q:List (P2 × Int)} {e:P2} {v:Int}:v∈usL Q e↔(e,v)∈Q:=by
 unfold usL
 rw[qp]
 constructor
 ·rintro⟨p,hp,rfl⟩
  have h:=qv.1 hp
  have h2:p.1=e:=by simpa using h.2
  subst h2;exact h.1
 ·intro h
  exact⟨(e,v),qv.2 ⟨h,by simp⟩,rfl⟩
theorem Q3z (Q:List (P2 × Int)) (e:P2):(usL Q e).length<=Q.length:=by
 unfold usL;rw[List.length_map];exact j9 _ _
def Ks (ts:List T3) (k:Nat):List (P2 × Int):=(List.range k).flatMap λi=>(Q6 (tAt ts i)).map λe=>(e.und,(i:Int))
theorem Q2i (ts:List T3) (k:Nat):Ks ts (k+1)=Ks ts k++(Q6 (tAt ts k)).map λe=>(e.und,(k:Int)):=by
 unfold Ks;rw[List.range_succ,List.flatMap_append];simp
theorem Q12 (ts:List T3) (k:Nat):(Ks ts k).length<=3*k:=by
 induction k with
 | zero=>simp[Ks]
 | succ k ih =>
   rw[Q2i,j4,List.length_map]
   have:(Q6 (tAt ts k)).length<=3:=Yi _ 3
   omega
theorem Qr {ts:List T3} {i:Nat} (h:i<ts.length):ts[i]?=some (tAt ts i):=by unfold tAt;rw[q9 h];rfl
theorem mem_allP {ts:List T3} {e:P2} {v:Int}:(e,v)∈Ks ts ts.length↔∃j,j<ts.length/\v=(j:Int)/\∃a∈Q6 (tAt ts j),a.und=e:=by
 unfold Ks
 rw[jm]
 constructor
 ·rintro⟨j,hj,h⟩
  obtain⟨a,ha,h2⟩:=qp.1 h
  simp only[Prod.mk.injEq]at h2
  exact⟨j,qz.1 hj,h2.2.symm,a,ha,h2.1⟩
 ·rintro⟨j,hj,rfl,a,ha,rfl⟩
  exact⟨j,qz.2 hj,qp.2 ⟨a,ha,rfl⟩⟩
theorem Qso {ts:List T3} {i j:Nat} (hi:i<ts.length):adjI ts i j↔∃e∈Q6 (tAt ts i),(j:Int)∈usL (Ks ts ts.length) e.und:=by
 constructor
 ·rintro⟨s,t,hs,ht,a,ha,b,hb,hab⟩
  have hj:=(q8.1 ht).1
  rw[Qr hi]at hs
  rw[Qr hj]at ht
  obtain rfl:=Option.some.inj hs
  obtain rfl:=Option.some.inj ht
  exact⟨a,ha,mem_usL.2 (mem_allP.2 ⟨j,hj,rfl,b,hb,hab.symm⟩)⟩
 ·rintro⟨a,ha,h⟩
  obtain⟨j',hj,hjj,b,hb,hab⟩:=mem_allP.1 (mem_usL.1 h)
  obtain rfl:j=j':=by omega
  exact⟨_,_,Qr hi,Qr hj,a,ha,b,hb,hab.symm⟩
structure Part (ts:List T3) (D S:List Int) (i:Nat):Prop where
 nodup:(D++S).Nodup
 mem:∀v∈S,0<=v/\Conn ts i v.toNat
 start:(i:Int)∈S
structure Old (ts:List T3) (L:List Int) (D:List Int) (i:Nat):Prop where
 nodup:D.Nodup
 iff:∀v:Int,v∈D↔∃j:Nat,v=(j:Int)/\j<ts.length/\∃u,L[j]?=some u/\u<i
theorem Part.one {ts:List T3} {L D:List Int} {i:Nat} (h:Old ts L D i) (hi:i<ts.length) (hn:(i:Int)∉D):Part ts D [(i:Int)] i:=by
 refine⟨?_,λv hv=>?_,by simp⟩
 ·rw[List.nodup_append]
  exact⟨h.nodup,by simp,λa ha b hb=>by simp at hb;subst hb;rintro rfl;exact hn ha⟩
 ·simp at hv;subst hv
  exact⟨by omega,by rw[Int.toNat_natCast];exact .refl hi⟩
theorem Part.add {ts:List T3} {D S:List Int} {i:Nat} (h:Part ts D S i) {v u:Int} (hv:v∈S) (hu:0<=u) (hadj:adjI ts v.toNat u.toNat) (hn:u∉D++S):Part ts D (S++[u]) i:=by
 refine⟨?_,λw hw=>?_,by simp[h.start]⟩
 ·rw[<- j3,List.nodup_append]
  exact⟨h.nodup,by simp,λa ha b hb=>by simp at hb;subst hb;rintro rfl;exact hn ha⟩
 ·rcases qg.1 hw with h1 | h1
  ·exact h.mem w h1
  ·simp at h1;subst h1
   exact⟨hu,.tail (h.mem v hv).2 hadj⟩
theorem Part.all {ts:List T3} {L D S:List Int} {i:Nat} (hL:IsLab ts L) (hD:Old ts L D i) (h:Part ts D S i) (hi:i<ts.length) (hLi:L[i]?=some (i:Int))
  (hc:∀v∈S,∀j:Nat,adjI ts v.toNat j->(j:Int)∈D++S):∀v:Int,v∈S↔v∈shK L i ts.length:=by
 have hnd:∀j:Nat,Conn ts i j->(j:Int)∉D:=by
  intro j hj hd
  obtain⟨j',h1,h2,u,h3,h4⟩:=(hD.iff _).1 hd
  obtain rfl:j=j':=by omega
  have:=hL.conn hj
  rw[hLi,h3]at this
  have:=Option.some.inj this
  omega
 have hclo:∀j,Conn ts i j->(j:Int)∈S:=by
  intro j hj
  generalize hii:i=i' at hj
  induction hj with
  | refl _=>subst hii;exact h.start
  | tail h1 h2 ih =>
    subst hii
    have:=hc _ ih _ (by rw[Int.toNat_natCast];exact h2)
    rcases qg.1 this with h3 | h3
    ·exact absurd h3 (hnd _ (.tail h1 h2))
    ·exact h3
 intro v
 unfold shK
 rw[qp]
 constructor
 ·intro hv
  obtain⟨h1,h2⟩:=h.mem v hv
  have hlt:=h2.lt.2
  refine⟨v.toNat,qv.2 ⟨qz.2 hlt,?_⟩,by omega⟩
  have:=hL.conn h2
  rw[hLi]at this
  simpa using this.symm
 ·rintro⟨j,hj,rfl⟩
  have hf:=qv.1 hj
  have hjl:=qz.1 hf.1
  have hLj:L[j]?=some (i:Int):=by simpa using hf.2
  exact hclo j ((hL.conn_iff hi hjl).2 (by rw[hLi,hLj]))
theorem Qop {L S:List Int} {i n:Nat} (hn:S.Nodup) (hm:∀v:Int,v∈S↔v∈shK L i n):X1 S=shK L i n:=by
 have hsh:(shK L i n).Pairwise λa b=>a<b:=by
  unfold shK
  rw[je]
  have h1:(List.range n).Pairwise (λa b:Nat=>a<b):=List.pairwise_lt_range
  exact(h1.filter _).imp λ{a b:Nat} (h:a<b)=>by show (a:Int)<(b:Int);omega
 have hso:(X1 S).Pairwise λa b=>a<=b:=by
  have:=List.pairwise_mergeSort (le:=λx y:Int=>decide (x<=y)) (λa b c h1 h2=>by simp at *;omega) (λa b=>by simp;omega) S
  exact this.imp λ{a b} h=>by simpa using h
 have hp:(X1 S).Perm S:=List.mergeSort_perm _ _
 have hnd:(X1 S).Nodup:=hp.nodup_iff.2 hn
 have hlt:(X1 S).Pairwise λa b=>a<b:=by
  rw[List.nodup_iff_pairwise_ne]at hnd
  exact(hso.and hnd).imp λ{a b} h=>by obtain⟨h1,h2⟩:=h;omega
 have hmm:∀v,v∈X1 S↔v∈shK L i n:=λv=>by rw[hp.mem_iff,hm]
 generalize X1 S=A at *
 generalize shK L i n=B at *
 clear hp hnd hso hm hn
 induction A generalizing B with
 | nil =>
   cases B with
   | nil=>rfl
   | cons b B=>have:=(hmm b).2 (by simp);simp at this
 | cons a A ih =>
   cases B with
   | nil=>have:=(hmm a).1 (by simp);simp at this
   | cons b B =>
     obtain⟨a1,a2⟩:=ja.1 hlt
     obtain⟨b1,b2⟩:=ja.1 hsh
     have hab:a=b:=by
      rcases List.mem_cons.1 ((hmm a).1 (by simp)) with h | h
      ·exact h
      ·rcases List.mem_cons.1 ((hmm b).2 (by simp)) with h' | h'
       ·exact h'.symm
       ·have:=b1 a h
        have:=a1 b h'
        omega
     subst hab
     rw[ih a2 B b2 λv=>?_]
     constructor
     ·intro hv
      rcases List.mem_cons.1 ((hmm v).1 (by simp[hv])) with h | h
      ·subst h;have:=a1 v hv;omega
      ·exact h
     ·intro hv
      rcases List.mem_cons.1 ((hmm v).2 (by simp[hv])) with h | h
      ·subst h;have:=b1 v hv;omega
      ·exact h
theorem Old.next {ts:List T3} {L D S:List Int} {i:Nat} (hL:IsLab ts L) (hD:Old ts L D i) (h:(D++S).Nodup) (hS:∀v:Int,v∈S↔v∈shK L i ts.length):Old ts L (D++S) (i+1) where
 nodup:=h
 iff v:=by
  rw[qg,hD.iff,hS]
  unfold shK
  rw[qp]
  constructor
  ·rintro (⟨j,h1,h2,u,h3,h4⟩ | ⟨j,hj,rfl⟩)
   ·exact⟨j,h1,h2,u,h3,by omega⟩
   ·have hf:=qv.1 hj
    exact⟨j,rfl,qz.1 hf.1,i,by simpa using hf.2,by omega⟩
  ·rintro⟨j,rfl,h2,u,h3,h4⟩
   by_cases hu:u<i
   ·exact .inl ⟨j,rfl,h2,u,h3,hu⟩
   ·have:u=i:=by omega
    subst this
    exact .inr ⟨j,qv.2 ⟨qz.2 h2,by simpa using h3⟩,rfl⟩
theorem Old.skip {ts:List T3} {L D:List Int} {i:Nat} (hL:IsLab ts L) (hD:Old ts L D i) (hd:(i:Int)∈D):Old ts L D (i+1)/\L[i]? ≠ some (i:Int):=by
 obtain⟨j,h1,h2,u,h3,h4⟩:=(hD.iff _).1 hd
 obtain rfl:i=j:=by omega
 have hne:L[i]? ≠ some (i:Int):=by rw[h3];intro hh;have:=Option.some.inj hh;omega
 refine⟨⟨hD.nodup,λv=>?_⟩,hne⟩
 rw[hD.iff]
 constructor
 ·rintro⟨j,k1,k2,w,k3,k4⟩;exact⟨j,k1,k2,w,k3,by omega⟩
 ·rintro⟨j,k1,k2,w,k3,k4⟩
  refine⟨j,k1,k2,w,k3,?_⟩
  refine j8 λhw=>?_
  have hwi:w=i:=by omega
  subst hwi
  have:=hL.conn ((hL.con j _ k3).2.2)
  rw[k3,Int.toNat_natCast]at this
  exact hne this.symm
theorem Old.own {ts:List T3} {L D:List Int} {i:Nat} (hL:IsLab ts L) (hD:Old ts L D i) (hi:i<ts.length) (hd:(i:Int)∉D):L[i]?=some (i:Int):=by
 have h1:L[i]?=some (L[i]'(by rw[hL.len];exact hi)):=q9 _
 generalize L[i]'(by rw[hL.len];exact hi)=u at h1
 have h2:=(hL.con i u h1).2.1
 by_cases h:u=i
 ·rw[h1,h]
 ·exact absurd ((hD.iff _).2 ⟨i,rfl,hi,u,h1,by omega⟩) hd
def evU (p:Nat × Nat):V:=.own (p.1+2) p.2 0 p.2
structure UM (hx:List O) (KJ:List (P2 × (Nat × Nat))) (Q:List (P2 × Int)):Prop where
 val:∀(i:Nat) (k:P2) (j n:Nat),KJ[i]?=some (k,(j,n))->n=(usL Q k).length/\hx[j]?=some (.arr n 1 (ics (usL Q k)))
 dis:∀(i i':Nat) (k k':P2) (j n n':Nat),KJ[i]?=some (k,(j,n))->KJ[i']?=some (k',(j,n'))->i=i'
 key:(KJ.map Prod.fst).Nodup
 none:∀e,Z2 e KJ=none->usL Q e=[]
theorem UM.nil:UM [] [] []:=⟨by simp,by simp,by simp,by simp[usL]⟩
theorem UM.app {hx:List O} {KJ:List (P2 × (Nat × Nat))} {Q:List (P2 × Int)} (h:UM hx KJ Q) (l:List O):UM (hx++l) KJ Q :=
 ⟨λi k j n hi=>by obtain⟨h1,h2⟩:=h.val i k j n hi;exact⟨h1,by rw[qd (q8.1 h2).1];exact h2⟩,h.dis,h.key,h.none⟩
theorem UM.new {hx:List O} {KJ:List (P2 × (Nat × Nat))} {Q:List (P2 × Int)} (h:UM hx KJ Q) {e:P2} {v:Int} (he:Z2 e KJ=Option.none) {l:List O} {j0:Nat} (hj:hx.length<=j0) (ho:(hx++l)[j0]?=some (.arr 1 1 (ics [v]))) :
  UM (hx++l) (KJ++[(e,(j0,1))]) (Q++[(e,v)]):=by
 have hn:=h.none e he
 have hk:=fndG_none.1 he
 have hval:∀(i:Nat) (k:P2) (j n:Nat),(KJ++[(e,(j0,1))])[i]?=some (k,(j,n))->(i<KJ.length/\KJ[i]?=some (k,(j,n))/\k≠e/\j<hx.length)∨(i=KJ.length/\k=e/\j=j0/\n=1):=by
  intro i k j n hi
  by_cases hl:i<KJ.length
  ·rw[qd hl]at hi
   refine .inl ⟨hl,hi,?_,(q8.1 (h.val i k j n hi).2).1⟩
   rintro rfl
   exact hk (qp.2 ⟨_,qb hi,rfl⟩)
  ·rw[qf (by omega)]at hi
   have h0:i-KJ.length=0:=by
    have:=(q8.1 hi).1
    simp at this;omega
   rw[h0]at hi
   simp at hi
   exact .inr ⟨by omega,hi.1.symm,hi.2.1.symm,hi.2.2.symm⟩
 refine⟨λi k j n hi=>?_,λi i' k k' j n n' h1 h2=>?_,?_,λa ha=>?_⟩
 ·rcases hval i k j n hi with⟨_,h1,h2,_⟩ | ⟨_,rfl,rfl,rfl⟩
  ·have:=(h.app l).val i k j n h1
   rw[Ku,if_neg (λhh=>h2 hh.symm)]
   exact this
  ·rw[Ku,if_pos rfl,hn]
   exact⟨rfl,ho⟩
 ·rcases hval i k j n h1 with⟨_,a1,_,a2⟩ | ⟨a1,_,a2,_⟩<;>rcases hval i' k' j n' h2 with⟨_,b1,_,b2⟩ | ⟨b1,_,b2,_⟩
  ·exact h.dis i i' k k' j n n' a1 b1
  ·omega
  ·omega
  ·omega
 ·rw[qx,List.nodup_append]
  exact⟨h.key,by simp,λa ha b hb=>by simp at hb;subst hb;rintro rfl;exact hk ha⟩
 ·have hne:a≠e:=by
   rintro rfl
   rw[Ux he,if_pos rfl]at ha;simp at ha
  rw[Ux he,if_neg hne]at ha
  rw[Ku,if_neg (λhh=>hne hh.symm)]
  exact h.none a ha
theorem UM.old {hx:List O} {KJ:List (P2 × (Nat × Nat))} {Q:List (P2 × Int)} (h:UM hx KJ Q) {e:P2} {v:Int} {p j n:Nat} (he:Z2 e KJ=some (p,(j,n))) :
  UM (hx.set j (.arr (n+1) 1 (ics (usL Q e)++[[.i .i64 v]]))) (KJ.set p (e,(j,n+1))) (Q++[(e,v)]):=by
 have hp:=Zm he
 have hpl:=(q8.1 hp).1
 obtain⟨hn,hj⟩:=h.val p e j n hp
 have hjl:=(q8.1 hj).1
 have hval:∀(i:Nat) (k:P2) (j' n':Nat),(KJ.set p (e,(j,n+1)))[i]?=some (k,(j',n'))->(i≠p/\KJ[i]?=some (k,(j',n'))/\k≠e/\j'≠j)∨(i=p/\k=e/\j'=j/\n'=n+1):=by
  intro i k j' n' hi
  by_cases hip:p=i
  ·subst hip
   rw[qn hpl]at hi
   simp at hi
   exact .inr ⟨rfl,hi.1.symm,hi.2.1.symm,hi.2.2.symm⟩
  ·rw[qu hip]at hi
   refine .inl ⟨λhh=>hip hh.symm,hi,?_,?_⟩
   ·rintro rfl
    have:=Yo h.key hi
    rw[he]at this
    simp at this
    exact hip this.1
   ·rintro rfl
    exact hip (h.dis p i _ _ _ _ _ hp hi)
 refine⟨λi k j' n' hi=>?_,λi i' k k' j' n1 n2 h1 h2=>?_,?_,λa ha=>?_⟩
 ·rcases hval i k j' n' hi with⟨_,h1,h2,h3⟩ | ⟨rfl,rfl,rfl,rfl⟩
  ·rw[Ku,if_neg (λhh=>h2 hh.symm),qu (λhh=>h3 hh.symm)]
   exact h.val i k j' n' h1
  ·rw[Ku,if_pos rfl,qn hjl]
   exact⟨by rw[hn];simp,by simp[ics]⟩
 ·rcases hval i k j' n1 h1 with⟨a0,a1,_,a2⟩ | ⟨a1,_,a2,_⟩<;>rcases hval i' k' j' n2 h2 with⟨b0,b1,_,b2⟩ | ⟨b1,_,b2,_⟩
  ·exact h.dis i i' k k' j' n1 n2 a1 b1
  ·exact absurd b2 a2
  ·exact absurd a2 b2
  ·omega
 ·have:(KJ.set p (e,(j,n+1))).map Prod.fst=KJ.map Prod.fst:=by
   rw[List.map_set]
   apply qy
   intro i
   by_cases hi:p=i
   ·subst hi
    rw[qn (by simpa using hpl),qq,hp];rfl
   ·rw[qu hi]
  rw[this];exact h.key
 ·rw[Q0q he]at ha
  split at ha
  ·simp at ha
  ·rename_i hne
   rw[Ku,if_neg (λhh=>hne hh.symm)]
   exact h.none a ha
theorem UM.cl {hx:List O} {KJ:List (P2 × (Nat × Nat))} {Q:List (P2 × Int)} (h:UM hx KJ Q) {N:Nat} (hN:hx.length+2<=N):∀e∈KJ.map (asG P2.enc evU),e.1.cl N=true/\e.2.cl N=true:=by
 intro x hx'
 obtain⟨⟨k,j,n⟩,hm,rfl⟩:=qp.1 hx'
 obtain⟨i,hi⟩:=qr hm
 have:=(q8.1 (h.val i k j n hi).2).1
 refine⟨?_,?_⟩
 ·simp[asG,P2.enc,P2.cs,V.cl,V.cl1,V.cl0]
 ·simp[asG,evU,V.cl,V.cl1,V.cl0];omega
theorem Flt.set {hx:List O} (h:Flt hx) {j:Nat} {o:O} (ho:∀n,o.cl n):Flt (hx.set j o):=λx hx' n=>by
 rcases List.mem_or_eq_of_mem_set hx' with h1 | rfl
 ·exact h x h1 n
 ·exact ho n
theorem lsV_nil:Le .nil (lsV []):=.inl (.inl (Le0.nil 1))
end Go.Abs
