/- Part of the library on which the proof stands: an abstract machine, its values and its soundness against the model; or what functions of the program do to such values. -/
import Derived.Test.YtcdjgldeiaiaoaaGreatGoSl
import Derived.Test.YtcdjgldeiaiaoaaGreatAbsSS
import Derived.Test.YtcdjgldeiaiaoaaGreatGoSet
set_option linter.unusedVariables false
set_option linter.unusedSimpArgs false
namespace Go.Abs
def leastV (n:Int) (Q:List (P2 × Int)) (e:P2):Int:=Q.foldl (fun a p=>if p.1 = e then min a p.2 else a) n
theorem leastV_snoc (n:Int) (Q:List (P2 × Int)) (p:P2 × Int) (e:P2):leastV n (Q ++ [p]) e = if e = p.1 then min (leastV n Q e) p.2 else leastV n Q e:=by
 unfold leastV
 rw [List.foldl_append]
 simp only [List.foldl_cons,List.foldl_nil]
 by_cases h:e = p.1
 ·rw [if_pos h,if_pos h.symm]
 ·rw [if_neg h,if_neg (fun hh=>h hh.symm)]
theorem leastV_ok (n:Int) (Q:List (P2 × Int)) (e:P2):(leastV n Q e = n ∨ ∃ p ∈ Q,p.1 = e∧p.2 = leastV n Q e)∧∀ p ∈ Q,p.1 = e→leastV n Q e ≤ p.2:=by
 have key:∀ k,k ≤ Q.length→((leastV n (Q.take k) e = n ∨ ∃ p ∈ Q.take k,p.1 = e∧p.2 = leastV n (Q.take k) e)∧∀ p ∈ Q.take k,p.1 = e→leastV n (Q.take k) e ≤ p.2)∧leastV n (Q.take k) e ≤ n:=by
  intro k
  induction k with
  | zero=>intro _;exact⟨⟨.inl rfl,by simp⟩,Int.le_refl _⟩
  | succ k ih =>
    intro hk
    obtain⟨⟨h1,h2⟩,h3⟩:=ih (by omega)
    have hp:Q[k]? = some Q[k]:=List.getElem?_eq_getElem (by omega)
    rw [take_succ_get hp,leastV_snoc]
    generalize Q[k] = q at *
    by_cases h:e = q.1
    ·rw [if_pos h]
     refine⟨⟨?_,fun p hpm hpe=>?_⟩,by omega⟩
     ·by_cases hle:leastV n (Q.take k) e ≤ q.2
      ·rw [Int.min_eq_left hle]
       rcases h1 with h1 | ⟨p,hpm,h4⟩
       ·exact .inl h1
       ·exact .inr ⟨p,List.mem_append.2 (.inl hpm),h4⟩
      ·rw [Int.min_eq_right (by omega)]
       exact .inr ⟨q,List.mem_append.2 (.inr (by simp)),h.symm,rfl⟩
     ·rcases List.mem_append.1 hpm with hh | hh
      ·have:=h2 p hh hpe;omega
      ·simp at hh;subst hh;omega
    ·rw [if_neg h]
     refine⟨⟨?_,fun p hpm hpe=>?_⟩,h3⟩
     ·rcases h1 with h1 | ⟨p,hpm,h4⟩
      ·exact .inl h1
      ·exact .inr ⟨p,List.mem_append.2 (.inl hpm),h4⟩
     ·rcases List.mem_append.1 hpm with hh | hh
      ·exact h2 p hh hpe
      ·simp at hh;subst hh;exact absurd hpe.symm h
 have:=(key Q.length (Nat.le_refl _)).1
 rwa [List.take_length] at this
def lAt (L:List Int) (i:Nat):Int:=(L[i]?).getD 0
def tAt (ts:List T3) (i:Nat):T3:=(ts[i]?).getD ⟨0,0,0⟩
def pairsK (ts:List T3) (L:List Int) (k:Nat):List (P2 × Int):=(List.range k).flatMap fun i=>(edgesOf (tAt ts i)).map fun e=>(e.und,lAt L i)
theorem pairsK_succ (ts:List T3) (L:List Int) (k:Nat):pairsK ts L (k + 1) = pairsK ts L k ++ (edgesOf (tAt ts k)).map fun e=>(e.und,lAt L k):=by
 unfold pairsK;rw [List.range_succ,List.flatMap_append];simp
def minE (g:P2→Int) (l:List P2) (v:Int):Int:=l.foldl (fun a e=>min a (g e.und)) v
theorem minE_snoc (g:P2→Int) (l:List P2) (e:P2) (v:Int):minE g (l ++ [e]) v = min (minE g l v) (g e.und):=by unfold minE;rw [List.foldl_append];rfl
theorem minE_ok (g:P2→Int) (l:List P2) (v:Int):(minE g l v = v ∨ ∃ e ∈ l,g e.und = minE g l v)∧minE g l v ≤ v∧∀ e ∈ l,minE g l v ≤ g e.und:=by
 refine rev_ind (p:=fun l=>(minE g l v = v ∨ ∃ e ∈ l,g e.und = minE g l v)∧minE g l v ≤ v∧∀ e ∈ l,minE g l v ≤ g e.und) ?_ ?_ l
 ·exact⟨.inl rfl,Int.le_refl _,by simp⟩
 ·rintro E x ⟨h1,h2,h3⟩
  rw [minE_snoc]
  refine⟨?_,by omega,fun e he=>?_⟩
  ·by_cases hle:minE g E v ≤ g x.und
   ·rw [Int.min_eq_left hle]
    rcases h1 with h1 | ⟨e,he,h4⟩
    ·exact .inl h1
    ·exact .inr ⟨e,by simp [he],h4⟩
   ·rw [Int.min_eq_right (by omega)]
    exact .inr ⟨x,by simp,rfl⟩
  ·rcases List.mem_append.1 he with h | h
   ·have:=h3 e h;omega
   ·simp at h;subst h;omega
def gOf (ts:List T3) (L:List Int):P2→Int:=leastV L.length (pairsK ts L ts.length)
def sprK (ts:List T3) (L:List Int) (k:Nat):List Int:=(List.range k).map fun i=>minE (gOf ts L) (edgesOf (tAt ts i)) (lAt L i)
theorem sprK_succ (ts:List T3) (L:List Int) (k:Nat):sprK ts L (k + 1) = sprK ts L k ++ [minE (gOf ts L) (edgesOf (tAt ts k)) (lAt L k)]:=by unfold sprK;rw [List.range_succ,List.map_append];rfl
theorem sprK_len (ts:List T3) (L:List Int) (k:Nat):(sprK ts L k).length = k:=by simp [sprK]
theorem pairs_mem {ts:List T3} {L:List Int} {k:Nat} {p:P2 × Int}:p ∈ pairsK ts L k ↔ ∃ i < k,∃ e ∈ edgesOf (tAt ts i),p = (e.und,lAt L i):=by
 unfold pairsK
 rw [List.mem_flatMap]
 constructor
 ·rintro⟨i,hi,h⟩
  obtain⟨e,he,rfl⟩:=List.mem_map.1 h
  exact⟨i,List.mem_range.1 hi,e,he,rfl⟩
 ·rintro⟨i,hi,e,he,rfl⟩
  exact⟨i,List.mem_range.2 hi,List.mem_map.2 ⟨e,he,rfl⟩⟩
theorem sprK_ok {ts:List T3} {L:List Int} (h:PreLab ts L):Spread ts L (sprK ts L ts.length):=by
 have hget:∀ i v,(sprK ts L ts.length)[i]? = some v→i < ts.length∧v = minE (gOf ts L) (edgesOf (tAt ts i)) (lAt L i):=by
  intro i v hv
  unfold sprK at hv
  rw [List.getElem?_map,Option.map_eq_some_iff] at hv
  obtain⟨j,hj,rfl⟩:=hv
  obtain⟨h1,h2⟩:=List.getElem?_eq_some_iff.1 hj
  simp at h1 h2
  subst h2
  exact⟨h1,rfl⟩
 have hL:∀ i,i < ts.length→L[i]? = some (lAt L i):=fun i hi=>by
  unfold lAt;rw [List.getElem?_eq_getElem (by rw [h.len];exact hi)];rfl
 have hT:∀ i,i < ts.length→ts[i]? = some (tAt ts i):=fun i hi=>by
  unfold tAt;rw [List.getElem?_eq_getElem hi];rfl
 have hadj:∀ i j e e',i < ts.length→j < ts.length→e ∈ edgesOf (tAt ts i)→e' ∈ edgesOf (tAt ts j)→e.und = e'.und→near ts i j:=fun i j e e' hi hj he he' hu =>
  .inr ⟨_,_,hT i hi,hT j hj,e,he,e',he',hu⟩
 refine⟨sprK_len _ _ _,fun i v hv=>?_,fun i j v u hv hn hu=>?_⟩
 ·obtain⟨hi,rfl⟩:=hget i v hv
  obtain⟨m1,m2,m3⟩:=minE_ok (gOf ts L) (edgesOf (tAt ts i)) (lAt L i)
  rcases m1 with m1 | ⟨e,he,m1⟩
  ·exact⟨i,.inl rfl,by rw [m1];exact hL i hi⟩
  ·obtain⟨l1,l2⟩:=leastV_ok L.length (pairsK ts L ts.length) e.und
   rcases l1 with l1 | ⟨p,hp,l1,l3⟩
   ·exfalso
    have h1:=l2 (e.und,lAt L i) (pairs_mem.2 ⟨i,hi,e,he,rfl⟩) rfl
    have h2:=(h.con i _ (hL i hi)).2.1
    have h3:=h.len
    simp only at h1
    omega
   ·obtain⟨j,hj,e',he',rfl⟩:=pairs_mem.1 hp
    refine⟨j,hadj i j e e' hi hj he he' l1.symm,?_⟩
    rw [← m1]
    show L[j]? = some (leastV L.length (pairsK ts L ts.length) e.und)
    rw [← l3]
    exact hL j hj
 ·obtain⟨hi,rfl⟩:=hget i v hv
  obtain⟨m1,m2,m3⟩:=minE_ok (gOf ts L) (edgesOf (tAt ts i)) (lAt L i)
  rcases hn with rfl | ⟨s,t,hs,ht,a,ha,b,hb,hab⟩
  ·rw [hL _ hi] at hu
   obtain rfl:=Option.some.inj hu
   exact m2
  ·have hj:=(List.getElem?_eq_some_iff.1 ht).1
   rw [hT i hi] at hs
   rw [hT j hj] at ht
   obtain rfl:=Option.some.inj hs
   obtain rfl:=Option.some.inj ht
   rw [hL j hj] at hu
   obtain rfl:=Option.some.inj hu
   have h1:=m3 a ha
   have h2:=(leastV_ok L.length (pairsK ts L ts.length) a.und).2 (b.und,lAt L j) (pairs_mem.2 ⟨j,hj,b,hb,rfl⟩) hab.symm
   have h3:gOf ts L a.und = leastV L.length (pairsK ts L ts.length) a.und:=rfl
   simp only at h2
   omega
def lw (K:List P2) (g:P2→Int):List Use:=K.map fun e=>(e,g e)
theorem lw_len (K:List P2) (g:P2→Int):(lw K g).length = K.length:=by simp [lw]
theorem lw_asc {K:List P2} (h:asc K) (g:P2→Int):ascU (lw K g):=by
 unfold lw ascU
 rw [List.pairwise_map]
 exact h
theorem lw_get {K:List P2} (g:P2→Int) {i:Nat} {e:P2} (h:K[i]? = some e):(lw K g)[i]? = some (e,g e):=by simp [lw,h]
theorem lw_pl {K:List P2} (h:asc K) (g:P2→Int) {i:Nat} {e:P2} (he:K[i]? = some e):pl (lw K g) e = i:=pl_found (lw_asc h g) (lw_get g he)
theorem lw_num {K:List P2} (h:asc K) (g:P2→Int) {e:P2} (he:e ∈ K):numU (lw K g) e = g e:=numU_of (lw_asc h g) (List.mem_map.2 ⟨e,he,rfl⟩)
theorem lw_set {K:List P2} (h:asc K) (g g':P2→Int) {i:Nat} {e:P2} (he:K[i]? = some e) (hg:∀ a ∈ K,a ≠ e→g' a = g a):(lw K g).set i (e,g' e) = lw K g':=by
 apply List.ext_getElem?
 intro j
 have hil:=(List.getElem?_eq_some_iff.1 he).1
 by_cases hj:i = j
 ·subst hj
  rw [List.getElem?_set_self (by rw [lw_len];exact hil),lw_get g' he]
 ·rw [List.getElem?_set_ne hj]
  by_cases hjl:j < K.length
  ·have hp:K[j]? = some K[j]:=List.getElem?_eq_getElem hjl
   rw [lw_get g hp,lw_get g' hp]
   have hne:K[j] ≠ e:=by
    intro hh
    have hn:K.Nodup:=h.imp fun h1 h2=>by subst h2;exact P2.lt_irrefl _ h1
    have hp2:K[j]? = some e:=by rw [hp,hh]
    obtain⟨q1,q2⟩:=List.getElem?_eq_some_iff.1 he
    obtain⟨q3,q4⟩:=List.getElem?_eq_some_iff.1 hp2
    have e1:=hn.idxOf_getElem i q1
    have e2:=hn.idxOf_getElem j q3
    rw [q2] at e1;rw [q4] at e2
    omega
   rw [hg K[j] (List.getElem_mem _) hne]
  ·rw [List.getElem?_eq_none (by rw [lw_len];omega),List.getElem?_eq_none (by rw [lw_len];omega)]
theorem undL_lw (E:List P2):undL E = lw (ascOf E) (fun _=>0):=by
 have h:=und_keys E
 have h2:=(undL_ok E).2.1
 rw [← h]
 unfold lw
 rw [List.map_map]
 have:(undL E).map id = (undL E).map ((fun e=>(e,(0:Int))) ∘ Prod.fst):=by
  refine List.map_congr_left fun u hu=>?_
  have:=((h2 u.1 u.2).1 hu).2
  simp only [id,Function.comp]
  rw [← this]
 rw [← this,List.map_id]
end Go.Abs
set_option linter.unusedVariables false
set_option linter.unusedSimpArgs false
namespace Go.Abs
theorem lab_ex (ts:List T3):∃ L,IsLab ts L:=by
 have key:∀ (n:Nat) (L:List Int),PreLab ts L→sumN L < n→∃ K,IsLab ts K:=by
  intro n
  induction n with
  | zero=>intro L _ h;omega
  | succ n ih =>
    intro L hL hn
    by_cases h:sprK ts L ts.length = L
    ·exact⟨L,Spread.fix hL (by have:=sprK_ok hL;rwa [h] at this)⟩
    ·have:=(sprK_ok hL).sum hL h
     exact ih _ (hL.spread (sprK_ok hL)) (by omega)
 exact key (sumN ((List.range ts.length).map fun (j:Nat)=>(j:Int)) + 1) _ (pre_id ts) (by omega)
theorem IsLab.conn_iff {ts:List T3} {L:List Int} (h:IsLab ts L) {i j:Nat} (hi:i < ts.length) (hj:j < ts.length):Conn ts i j ↔ L[i]? = L[j]?:=by
 constructor
 ·exact h.conn
 ·intro he
  have h1:L[i]? = some (L[i]'(by rw [h.len];exact hi)):=List.getElem?_eq_getElem _
  have h2:=h1
  rw [he] at h2
  exact ((h.con i _ h1).2.2).trans ((h.con j _ h2).2.2).symm
def usL (Q:List (P2 × Int)) (e:P2):List Int:=(Q.filter fun p=>decide (p.1 = e)).map Prod.snd
theorem usL_snoc (Q:List (P2 × Int)) (p:P2 × Int) (e:P2):usL (Q ++ [p]) e = if p.1 = e then usL Q e ++ [p.2] else usL Q e:=by
 unfold usL
 rw [List.filter_append,List.map_append]
 by_cases h:p.1 = e <;> simp [h]
theorem mem_usL {Q:List (P2 × Int)} {e:P2} {v:Int}:v ∈ usL Q e ↔ (e,v) ∈ Q:=by
 unfold usL
 rw [List.mem_map]
 constructor
 ·rintro⟨p,hp,rfl⟩
  have h:=List.mem_filter.1 hp
  have h2:p.1 = e:=by simpa using h.2
  subst h2;exact h.1
 ·intro h
  exact⟨(e,v),List.mem_filter.2 ⟨h,by simp⟩,rfl⟩
theorem usL_len (Q:List (P2 × Int)) (e:P2):(usL Q e).length ≤ Q.length:=by
 unfold usL;rw [List.length_map];exact List.length_filter_le _ _
def allP (ts:List T3) (k:Nat):List (P2 × Int):=(List.range k).flatMap fun i=>(edgesOf (tAt ts i)).map fun e=>(e.und,(i:Int))
theorem allP_succ (ts:List T3) (k:Nat):allP ts (k + 1) = allP ts k ++ (edgesOf (tAt ts k)).map fun e=>(e.und,(k:Int)):=by
 unfold allP;rw [List.range_succ,List.flatMap_append];simp
theorem allP_len (ts:List T3) (k:Nat):(allP ts k).length ≤ 3 * k:=by
 induction k with
 | zero=>simp [allP]
 | succ k ih =>
   rw [allP_succ,List.length_append,List.length_map]
   have:(edgesOf (tAt ts k)).length ≤ 3:=edgesK_le _ 3
   omega
theorem tAt_get {ts:List T3} {i:Nat} (h:i < ts.length):ts[i]? = some (tAt ts i):=by unfold tAt;rw [List.getElem?_eq_getElem h];rfl
theorem mem_allP {ts:List T3} {e:P2} {v:Int}:(e,v) ∈ allP ts ts.length ↔ ∃ j,j < ts.length∧v = (j:Int)∧∃ a ∈ edgesOf (tAt ts j),a.und = e:=by
 unfold allP
 rw [List.mem_flatMap]
 constructor
 ·rintro⟨j,hj,h⟩
  obtain⟨a,ha,h2⟩:=List.mem_map.1 h
  simp only [Prod.mk.injEq] at h2
  exact⟨j,List.mem_range.1 hj,h2.2.symm,a,ha,h2.1⟩
 ·rintro⟨j,hj,rfl,a,ha,rfl⟩
  exact⟨j,List.mem_range.2 hj,List.mem_map.2 ⟨a,ha,rfl⟩⟩
theorem adj_us {ts:List T3} {i j:Nat} (hi:i < ts.length):adjI ts i j ↔ ∃ e ∈ edgesOf (tAt ts i),(j:Int) ∈ usL (allP ts ts.length) e.und:=by
 constructor
 ·rintro⟨s,t,hs,ht,a,ha,b,hb,hab⟩
  have hj:=(List.getElem?_eq_some_iff.1 ht).1
  rw [tAt_get hi] at hs
  rw [tAt_get hj] at ht
  obtain rfl:=Option.some.inj hs
  obtain rfl:=Option.some.inj ht
  exact⟨a,ha,mem_usL.2 (mem_allP.2 ⟨j,hj,rfl,b,hb,hab.symm⟩)⟩
 ·rintro⟨a,ha,h⟩
  obtain⟨j',hj,hjj,b,hb,hab⟩:=mem_allP.1 (mem_usL.1 h)
  obtain rfl:j = j':=by omega
  exact⟨_,_,tAt_get hi,tAt_get hj,a,ha,b,hb,hab.symm⟩
structure Part (ts:List T3) (D S:List Int) (i:Nat):Prop where
 nodup:(D ++ S).Nodup
 mem:∀ v ∈ S,0 ≤ v∧Conn ts i v.toNat
 start:(i:Int) ∈ S
structure Old (ts:List T3) (L:List Int) (D:List Int) (i:Nat):Prop where
 nodup:D.Nodup
 iff:∀ v:Int,v ∈ D ↔ ∃ j:Nat,v = (j:Int)∧j < ts.length∧∃ u,L[j]? = some u∧u < i
theorem Part.one {ts:List T3} {L D:List Int} {i:Nat} (h:Old ts L D i) (hi:i < ts.length) (hn:(i:Int) ∉ D):Part ts D [(i:Int)] i:=by
 refine⟨?_,fun v hv=>?_,by simp⟩
 ·rw [List.nodup_append]
  exact⟨h.nodup,by simp,fun a ha b hb=>by simp at hb;subst hb;rintro rfl;exact hn ha⟩
 ·simp at hv;subst hv
  exact⟨by omega,by rw [Int.toNat_natCast];exact .refl hi⟩
theorem Part.add {ts:List T3} {D S:List Int} {i:Nat} (h:Part ts D S i) {v u:Int} (hv:v ∈ S) (hu:0 ≤ u) (hadj:adjI ts v.toNat u.toNat) (hn:u ∉ D ++ S):Part ts D (S ++ [u]) i:=by
 refine⟨?_,fun w hw=>?_,by simp [h.start]⟩
 ·rw [← List.append_assoc,List.nodup_append]
  exact⟨h.nodup,by simp,fun a ha b hb=>by simp at hb;subst hb;rintro rfl;exact hn ha⟩
 ·rcases List.mem_append.1 hw with h1 | h1
  ·exact h.mem w h1
  ·simp at h1;subst h1
   exact⟨hu,.tail (h.mem v hv).2 hadj⟩
theorem Part.all {ts:List T3} {L D S:List Int} {i:Nat} (hL:IsLab ts L) (hD:Old ts L D i) (h:Part ts D S i) (hi:i < ts.length) (hLi:L[i]? = some (i:Int))
  (hc:∀ v ∈ S,∀ j:Nat,adjI ts v.toNat j→(j:Int) ∈ D ++ S):∀ v:Int,v ∈ S ↔ v ∈ shK L i ts.length:=by
 have hnd:∀ j:Nat,Conn ts i j→(j:Int) ∉ D:=by
  intro j hj hd
  obtain⟨j',h1,h2,u,h3,h4⟩:=(hD.iff _).1 hd
  obtain rfl:j = j':=by omega
  have:=hL.conn hj
  rw [hLi,h3] at this
  have:=Option.some.inj this
  omega
 have hclo:∀ j,Conn ts i j→(j:Int) ∈ S:=by
  intro j hj
  generalize hii:i = i' at hj
  induction hj with
  | refl _=>subst hii;exact h.start
  | tail h1 h2 ih =>
    subst hii
    have:=hc _ ih _ (by rw [Int.toNat_natCast];exact h2)
    rcases List.mem_append.1 this with h3 | h3
    ·exact absurd h3 (hnd _ (.tail h1 h2))
    ·exact h3
 intro v
 unfold shK
 rw [List.mem_map]
 constructor
 ·intro hv
  obtain⟨h1,h2⟩:=h.mem v hv
  have hlt:=h2.lt.2
  refine⟨v.toNat,List.mem_filter.2 ⟨List.mem_range.2 hlt,?_⟩,by omega⟩
  have:=hL.conn h2
  rw [hLi] at this
  simpa using this.symm
 ·rintro⟨j,hj,rfl⟩
  have hf:=List.mem_filter.1 hj
  have hjl:=List.mem_range.1 hf.1
  have hLj:L[j]? = some (i:Int):=by simpa using hf.2
  exact hclo j ((hL.conn_iff hi hjl).2 (by rw [hLi,hLj]))
theorem sort_shK {L S:List Int} {i n:Nat} (hn:S.Nodup) (hm:∀ v:Int,v ∈ S ↔ v ∈ shK L i n):sortZ S = shK L i n:=by
 have hsh:(shK L i n).Pairwise fun a b=>a < b:=by
  unfold shK
  rw [List.pairwise_map]
  have h1:(List.range n).Pairwise (fun a b:Nat=>a < b):=List.pairwise_lt_range
  exact (h1.filter _).imp fun {a b:Nat} (h:a < b)=>by show (a:Int) < (b:Int);omega
 have hso:(sortZ S).Pairwise fun a b=>a ≤ b:=by
  have:=List.pairwise_mergeSort (le:=fun x y:Int=>decide (x ≤ y)) (fun a b c h1 h2=>by simp at *;omega) (fun a b=>by simp;omega) S
  exact this.imp fun {a b} h=>by simpa using h
 have hp:(sortZ S).Perm S:=List.mergeSort_perm _ _
 have hnd:(sortZ S).Nodup:=hp.nodup_iff.2 hn
 have hlt:(sortZ S).Pairwise fun a b=>a < b:=by
  rw [List.nodup_iff_pairwise_ne] at hnd
  exact (hso.and hnd).imp fun {a b} h=>by obtain⟨h1,h2⟩:=h;omega
 have hmm:∀ v,v ∈ sortZ S ↔ v ∈ shK L i n:=fun v=>by rw [hp.mem_iff,hm]
 generalize sortZ S = A at *
 generalize shK L i n = B at *
 clear hp hnd hso hm hn
 induction A generalizing B with
 | nil =>
   cases B with
   | nil=>rfl
   | cons b B=>have:=(hmm b).2 (by simp);simp at this
 | cons a A ih =>
   cases B with
   | nil=>have:=(hmm a).1 (by simp);simp at this
   | cons b B =>
     obtain⟨a1,a2⟩:=List.pairwise_cons.1 hlt
     obtain⟨b1,b2⟩:=List.pairwise_cons.1 hsh
     have hab:a = b:=by
      rcases List.mem_cons.1 ((hmm a).1 (by simp)) with h | h
      ·exact h
      ·rcases List.mem_cons.1 ((hmm b).2 (by simp)) with h' | h'
       ·exact h'.symm
       ·have:=b1 a h
        have:=a1 b h'
        omega
     subst hab
     rw [ih a2 B b2 fun v=>?_]
     constructor
     ·intro hv
      rcases List.mem_cons.1 ((hmm v).1 (by simp [hv])) with h | h
      ·subst h;have:=a1 v hv;omega
      ·exact h
     ·intro hv
      rcases List.mem_cons.1 ((hmm v).2 (by simp [hv])) with h | h
      ·subst h;have:=b1 v hv;omega
      ·exact h
theorem Old.next {ts:List T3} {L D S:List Int} {i:Nat} (hL:IsLab ts L) (hD:Old ts L D i) (h:(D ++ S).Nodup) (hS:∀ v:Int,v ∈ S ↔ v ∈ shK L i ts.length):Old ts L (D ++ S) (i + 1) where
 nodup:=h
 iff v:=by
  rw [List.mem_append,hD.iff,hS]
  unfold shK
  rw [List.mem_map]
  constructor
  ·rintro (⟨j,h1,h2,u,h3,h4⟩ | ⟨j,hj,rfl⟩)
   ·exact⟨j,h1,h2,u,h3,by omega⟩
   ·have hf:=List.mem_filter.1 hj
    exact⟨j,rfl,List.mem_range.1 hf.1,i,by simpa using hf.2,by omega⟩
  ·rintro⟨j,rfl,h2,u,h3,h4⟩
   by_cases hu:u < i
   ·exact .inl ⟨j,rfl,h2,u,h3,hu⟩
   ·have:u = i:=by omega
    subst this
    exact .inr ⟨j,List.mem_filter.2 ⟨List.mem_range.2 h2,by simpa using h3⟩,rfl⟩
theorem Old.skip {ts:List T3} {L D:List Int} {i:Nat} (hL:IsLab ts L) (hD:Old ts L D i) (hd:(i:Int) ∈ D):Old ts L D (i + 1)∧L[i]? ≠ some (i:Int):=by
 obtain⟨j,h1,h2,u,h3,h4⟩:=(hD.iff _).1 hd
 obtain rfl:i = j:=by omega
 have hne:L[i]? ≠ some (i:Int):=by rw [h3];intro hh;have:=Option.some.inj hh;omega
 refine⟨⟨hD.nodup,fun v=>?_⟩,hne⟩
 rw [hD.iff]
 constructor
 ·rintro⟨j,k1,k2,w,k3,k4⟩;exact⟨j,k1,k2,w,k3,by omega⟩
 ·rintro⟨j,k1,k2,w,k3,k4⟩
  refine⟨j,k1,k2,w,k3,?_⟩
  refine Decidable.byContradiction fun hw=>?_
  have hwi:w = i:=by omega
  subst hwi
  have:=hL.conn ((hL.con j _ k3).2.2)
  rw [k3,Int.toNat_natCast] at this
  exact hne this.symm
theorem Old.own {ts:List T3} {L D:List Int} {i:Nat} (hL:IsLab ts L) (hD:Old ts L D i) (hi:i < ts.length) (hd:(i:Int) ∉ D):L[i]? = some (i:Int):=by
 have h1:L[i]? = some (L[i]'(by rw [hL.len];exact hi)):=List.getElem?_eq_getElem _
 generalize L[i]'(by rw [hL.len];exact hi) = u at h1
 have h2:=(hL.con i u h1).2.1
 by_cases h:u = i
 ·rw [h1,h]
 ·exact absurd ((hD.iff _).2 ⟨i,rfl,hi,u,h1,by omega⟩) hd
end Go.Abs
set_option linter.unusedVariables false
set_option linter.unusedSimpArgs false
namespace Go.Abs
def evU (p:Nat × Nat):V:=.own (p.1 + 2) p.2 0 p.2
structure UM (hx:List O) (KJ:List (P2 × (Nat × Nat))) (Q:List (P2 × Int)):Prop where
 val:∀ (i:Nat) (k:P2) (j n:Nat),KJ[i]? = some (k,(j,n))→n = (usL Q k).length∧hx[j]? = some (.arr n 1 (ics (usL Q k)))
 dis:∀ (i i':Nat) (k k':P2) (j n n':Nat),KJ[i]? = some (k,(j,n))→KJ[i']? = some (k',(j,n'))→i = i'
 key:(KJ.map Prod.fst).Nodup
 none:∀ e,fndG e KJ = none→usL Q e = []
theorem UM.nil:UM [] [] []:=⟨by simp,by simp,by simp,by simp [usL]⟩
theorem UM.app {hx:List O} {KJ:List (P2 × (Nat × Nat))} {Q:List (P2 × Int)} (h:UM hx KJ Q) (l:List O):UM (hx ++ l) KJ Q :=
 ⟨fun i k j n hi=>by obtain⟨h1,h2⟩:=h.val i k j n hi;exact⟨h1,by rw [List.getElem?_append_left (List.getElem?_eq_some_iff.1 h2).1];exact h2⟩,h.dis,h.key,h.none⟩
theorem UM.new {hx:List O} {KJ:List (P2 × (Nat × Nat))} {Q:List (P2 × Int)} (h:UM hx KJ Q) {e:P2} {v:Int} (he:fndG e KJ = Option.none) {l:List O} {j0:Nat} (hj:hx.length ≤ j0) (ho:(hx ++ l)[j0]? = some (.arr 1 1 (ics [v]))) :
  UM (hx ++ l) (KJ ++ [(e,(j0,1))]) (Q ++ [(e,v)]):=by
 have hn:=h.none e he
 have hk:=fndG_none.1 he
 have hval:∀ (i:Nat) (k:P2) (j n:Nat),(KJ ++ [(e,(j0,1))])[i]? = some (k,(j,n))→(i < KJ.length∧KJ[i]? = some (k,(j,n))∧k ≠ e∧j < hx.length) ∨ (i = KJ.length∧k = e∧j = j0∧n = 1):=by
  intro i k j n hi
  by_cases hl:i < KJ.length
  ·rw [List.getElem?_append_left hl] at hi
   refine .inl ⟨hl,hi,?_,(List.getElem?_eq_some_iff.1 (h.val i k j n hi).2).1⟩
   rintro rfl
   exact hk (List.mem_map.2 ⟨_,List.mem_of_getElem? hi,rfl⟩)
  ·rw [List.getElem?_append_right (by omega)] at hi
   have h0:i - KJ.length = 0:=by
    have:=(List.getElem?_eq_some_iff.1 hi).1
    simp at this;omega
   rw [h0] at hi
   simp at hi
   exact .inr ⟨by omega,hi.1.symm,hi.2.1.symm,hi.2.2.symm⟩
 refine⟨fun i k j n hi=>?_,fun i i' k k' j n n' h1 h2=>?_,?_,fun a ha=>?_⟩
 ·rcases hval i k j n hi with⟨_,h1,h2,_⟩ | ⟨_,rfl,rfl,rfl⟩
  ·have:=(h.app l).val i k j n h1
   rw [usL_snoc,if_neg (fun hh=>h2 hh.symm)]
   exact this
  ·rw [usL_snoc,if_pos rfl,hn]
   exact⟨rfl,ho⟩
 ·rcases hval i k j n h1 with⟨_,a1,_,a2⟩ | ⟨a1,_,a2,_⟩ <;> rcases hval i' k' j n' h2 with⟨_,b1,_,b2⟩ | ⟨b1,_,b2,_⟩
  ·exact h.dis i i' k k' j n n' a1 b1
  ·omega
  ·omega
  ·omega
 ·rw [List.map_append,List.nodup_append]
  exact⟨h.key,by simp,fun a ha b hb=>by simp at hb;subst hb;rintro rfl;exact hk ha⟩
 ·have hne:a ≠ e:=by
   rintro rfl
   rw [fndG_app he,if_pos rfl] at ha;simp at ha
  rw [fndG_app he,if_neg hne] at ha
  rw [usL_snoc,if_neg (fun hh=>hne hh.symm)]
  exact h.none a ha
theorem UM.old {hx:List O} {KJ:List (P2 × (Nat × Nat))} {Q:List (P2 × Int)} (h:UM hx KJ Q) {e:P2} {v:Int} {p j n:Nat} (he:fndG e KJ = some (p,(j,n))) :
  UM (hx.set j (.arr (n + 1) 1 (ics (usL Q e) ++ [[.i .i64 v]]))) (KJ.set p (e,(j,n + 1))) (Q ++ [(e,v)]):=by
 have hp:=fndG_some he
 have hpl:=(List.getElem?_eq_some_iff.1 hp).1
 obtain⟨hn,hj⟩:=h.val p e j n hp
 have hjl:=(List.getElem?_eq_some_iff.1 hj).1
 have hval:∀ (i:Nat) (k:P2) (j' n':Nat),(KJ.set p (e,(j,n + 1)))[i]? = some (k,(j',n'))→(i ≠ p∧KJ[i]? = some (k,(j',n'))∧k ≠ e∧j' ≠ j) ∨ (i = p∧k = e∧j' = j∧n' = n + 1):=by
  intro i k j' n' hi
  by_cases hip:p = i
  ·subst hip
   rw [List.getElem?_set_self hpl] at hi
   simp at hi
   exact .inr ⟨rfl,hi.1.symm,hi.2.1.symm,hi.2.2.symm⟩
  ·rw [List.getElem?_set_ne hip] at hi
   refine .inl ⟨fun hh=>hip hh.symm,hi,?_,?_⟩
   ·rintro rfl
    have:=fndG_of_get h.key hi
    rw [he] at this
    simp at this
    exact hip this.1
   ·rintro rfl
    exact hip (h.dis p i _ _ _ _ _ hp hi)
 refine⟨fun i k j' n' hi=>?_,fun i i' k k' j' n1 n2 h1 h2=>?_,?_,fun a ha=>?_⟩
 ·rcases hval i k j' n' hi with⟨_,h1,h2,h3⟩ | ⟨rfl,rfl,rfl,rfl⟩
  ·rw [usL_snoc,if_neg (fun hh=>h2 hh.symm),List.getElem?_set_ne (fun hh=>h3 hh.symm)]
   exact h.val i k j' n' h1
  ·rw [usL_snoc,if_pos rfl,List.getElem?_set_self hjl]
   exact⟨by rw [hn];simp,by simp [ics]⟩
 ·rcases hval i k j' n1 h1 with⟨a0,a1,_,a2⟩ | ⟨a1,_,a2,_⟩ <;> rcases hval i' k' j' n2 h2 with⟨b0,b1,_,b2⟩ | ⟨b1,_,b2,_⟩
  ·exact h.dis i i' k k' j' n1 n2 a1 b1
  ·exact absurd b2 a2
  ·exact absurd a2 b2
  ·omega
 ·have:(KJ.set p (e,(j,n + 1))).map Prod.fst = KJ.map Prod.fst:=by
   rw [List.map_set]
   apply List.ext_getElem?
   intro i
   by_cases hi:p = i
   ·subst hi
    rw [List.getElem?_set_self (by simpa using hpl),List.getElem?_map,hp];rfl
   ·rw [List.getElem?_set_ne hi]
  rw [this];exact h.key
 ·rw [fndG_set he] at ha
  split at ha
  ·simp at ha
  ·rename_i hne
   rw [usL_snoc,if_neg (fun hh=>hne hh.symm)]
   exact h.none a ha
theorem UM.cl {hx:List O} {KJ:List (P2 × (Nat × Nat))} {Q:List (P2 × Int)} (h:UM hx KJ Q) {N:Nat} (hN:hx.length + 2 ≤ N):∀ e ∈ KJ.map (asG P2.enc evU),e.1.cl N = true∧e.2.cl N = true:=by
 intro x hx'
 obtain⟨⟨k,j,n⟩,hm,rfl⟩:=List.mem_map.1 hx'
 obtain⟨i,hi⟩:=List.getElem?_of_mem hm
 have:=(List.getElem?_eq_some_iff.1 (h.val i k j n hi).2).1
 refine⟨?_,?_⟩
 ·simp [asG,P2.enc,P2.cs,V.cl,V.cl1,V.cl0]
 ·simp [asG,evU,V.cl,V.cl1,V.cl0];omega
theorem Flt.set {hx:List O} (h:Flt hx) {j:Nat} {o:O} (ho:∀ n,o.cl n):Flt (hx.set j o):=fun x hx' n=>by
 rcases List.mem_or_eq_of_mem_set hx' with h1 | rfl
 ·exact h x h1 n
 ·exact ho n
end Go.Abs
set_option linter.unusedVariables false
set_option linter.unusedSimpArgs false
namespace Go.Abs
def SpreadFC (P:Program) (f:FuncId):Prop:=∀ (m:Mesh) (L:List Int),m.check = 0→PreLab m.tris L →
 CallIs P f [m.enc,isV L] (.t [isV (sprK m.tris L m.tris.length),.b (decide (sprK m.tris L m.tris.length ≠ L))])
theorem lw_congr {K:List P2} {g g':P2→Int} (h:∀ e ∈ K,g e = g' e):lw K g = lw K g':=by
 unfold lw;exact List.map_congr_left fun e he=>by rw [h e he]
theorem lw_map_set {K:List P2} (h:asc K) (g g':P2→Int) {i:Nat} {e:P2} (he:K[i]? = some e) (hg:∀ a ∈ K,a ≠ e→g' a = g a) {n:Int} (hn:n = g' e) :
  ((lw K g).map uCs).set i [.i .i64 e.x,.i .i64 e.y,.i .i64 n] = (lw K g').map uCs:=by
 subst hn
 rw [← lw_set h g g' he hg,List.map_set];rfl
def gK (K:List P2) (n:Int) (k:Nat) (e:P2):Int:=if K.idxOf e < k then n else 0
theorem take_ne {α:Type} [DecidableEq α] {K L:List α} {k:Nat} {a b:α} (hk:K.length = k) (hL:L[k]? = some b):decide (K ++ [a] ≠ L.take (k + 1)) = (decide (K ≠ L.take k) || decide (a ≠ b)):=by
 rw [take_succ_get hL]
 have hlt:=(List.getElem?_eq_some_iff.1 hL).1
 have hl:K.length = (L.take k).length:=by simp;omega
 rw [Bool.eq_iff_iff]
 simp only [decide_eq_true_eq,Bool.or_eq_true,ne_eq]
 constructor
 ·intro h
  by_cases h1:K = L.take k
  ·right;rintro rfl;exact h (by rw [h1])
  ·exact .inl h1
 ·rintro (h | h) hh
  ·exact h (List.append_inj_left hh hl)
  ·have:=List.append_inj_right hh hl
   simp at this;exact h this
section
variable {P:Program} (hm:P.follows .mixedOrders = true)
include hm
set_option maxRecDepth 20000 in
set_option maxHeartbeats 8000000 in
theorem ref10_spread_ok {f fu fd fv fp fn:FuncId} (hf:FnOk P f (ref10_spread.c fu fd fv fp fn) ref10_spread.r ref10_spread.n) (hu:UndirC P fu) (hd:EdgesC P fd) (hv:UndC P fv) (hp:PlaceC P fp) (hn:NumberC P fn):SpreadFC P f:=by
 intro m L hz hL
 refine PureC.is (pure_of hm hf (Nat.le_of_ble_eq_true rfl) ?_) rfl
 unfold ref10_spread.c
 have hl:=(Mesh.check_zero.1 hz).2.1
 have hu1:=hu m hz
 rw [undL_lw] at hu1
 have hKa:asc (ascOf ((alluses m.tris).map P2.und)):=ascOf_asc _
 have hKm:∀ i,i < m.tris.length→∀ e ∈ edgesOf (tAt m.tris i),e.und ∈ ascOf ((alluses m.tris).map P2.und):=by
  intro i hi e he
  rw [mem_ascOf,List.mem_map]
  have:m.tris[i]? = some (tAt m.tris i):=by unfold tAt;rw [List.getElem?_eq_getElem hi];rfl
  exact⟨e,List.mem_flatMap.2 ⟨_,List.mem_of_getElem? this,he⟩,rfl⟩
 have hKl:(ascOf ((alluses m.tris).map P2.und)).length ≤ 12288:=by
  have:=@edgesL_len m
  unfold Mesh.edgesL at this
  rwa [if_pos hz] at this
 have hLl:=hL.len
 have hLb:∀ i,i < m.tris.length→L[i]? = some (lAt L i):=fun i hi=>by unfold lAt;rw [List.getElem?_eq_getElem (by omega)];rfl
 generalize ascOf ((alluses m.tris).map P2.und) = K at *
 have hKn:K.Nodup:=hKa.imp fun h1 h2=>by subst h2;exact P2.lt_irrefl _ h1
 simp only [lw_len] at hu1
 simp [go_sem,Mesh.enc,Mesh.cs,isV]
 refine ACall_new hu1 rfl ?_
 simp only [List.map_cons,List.map_nil,sh_uCs]
 have hll:=fun g=>lw_len K g
 simp [go_sem,hll]
 have hg0:lw K (fun _=>0) = lw K (gK K L.length 0):=lw_congr fun e _=>by simp [gK]
 rw [hg0]
 refine AS_loop (α:=Nat) (fun k=>k ≤ K.length)
  (fun k=>⟨[(1,isV L),(2,.p 0 1 0 0),(6,.own 2 (K.length + 1) 0 K.length),(22,.own 2 (K.length + 1) 0 K.length),(23,.i .i64 K.length),(24,.i .i64 k)],[.arr 1 2 [m.cs],.dead,.arr (K.length + 1) 3 ((lw K (gK K L.length k)).map uCs)]⟩)
  (fun k=>K.length - k) 0 (Nat.zero_le _) ?_ ?_
 ·simp [go_sem,isV,Mesh.cs,vsV,tsV]
  exact uCs_cl2 _ _
 ·intro k hk
  by_cases hkl:k = K.length
  ·subst hkl
   have hg1:lw K (gK K L.length K.length) = lw K (leastV L.length (pairsK m.tris L 0)):=lw_congr fun e he=>by
    have:=List.idxOf_lt_length_iff.2 he
    simp [gK,this,pairsK,leastV]
   rw [hg1]
   simp [go_sem,isV,Mesh.cs,tsV]
   refine AS_loop (α:=Nat) (fun k=>k ≤ m.tris.length)
    (fun k=>⟨[(1,isV L),(2,.p 0 1 0 0),(6,.own 2 (K.length + 1) 0 K.length),(35,tsV m.tris),(36,.i .i64 m.tris.length),(37,.i .i64 k)],[.arr 1 2 [m.cs],.dead,.arr (K.length + 1) 3 ((lw K (leastV L.length (pairsK m.tris L k))).map uCs)]⟩)
    (fun k=>m.tris.length - k) 0 (Nat.zero_le _) ?_ ?_
   ·simp [go_sem,isV,Mesh.cs,vsV,tsV]
    exact uCs_cl2 _ _
   ·intro i hi
    by_cases hil:i = m.tris.length
    ·subst hil
     have hgo:leastV L.length (pairsK m.tris L m.tris.length) = gOf m.tris L:=rfl
     rw [hgo]
     simp [go_sem,isV,Mesh.cs,tsV]
     refine AS_loopG [.t 13 1] (α:=Nat) (fun k=>k ≤ m.tris.length)
      (fun k=>⟨[(1,isV L),(6,.own 2 (K.length + 1) 0 K.length),(13,.own 3 (k + 1) 0 k),(14,.b (decide (sprK m.tris L k ≠ L.take k))),(70,tsV m.tris),(71,.i .i64 m.tris.length),(72,.i .i64 k)],[.dead,.dead,.arr (K.length + 1) 3 ((lw K (gOf m.tris L)).map uCs),.arr (k + 1) 1 (ics (sprK m.tris L k))]⟩)
      (fun k=>m.tris.length - k) 0 (Nat.zero_le _) ?_ ?_
     ·simp [go_sem,isV,tsV,sprK,ics]
      exact uCs_cl2 _ _
     ·intro k hk
      by_cases hkl:k = m.tris.length
      ·subst hkl
       have hlt2:L.take m.tris.length = L:=List.take_of_length_le (by omega)
       have hsl:=sprK_len m.tris L m.tris.length
       have htk:List.take m.tris.length (ics (sprK m.tris L m.tris.length)) = ics (sprK m.tris L m.tris.length):=List.take_of_length_le (by simp [ics,hsl])
       rw [hlt2]
       generalize sprK m.tris L m.tris.length = S at *
       simp [go_sem,isV,tsV,ref10_spread.r,htk]
       rw [if_pos ⟨by simp [ics,hsl],ics_isD S⟩];rfl
      ·have hlt:k < m.tris.length:=by omega
       have hp3:m.tris[k]? = some (tAt m.tris k):=by unfold tAt;rw [List.getElem?_eq_getElem hlt];rfl
       have hLi:=hLb k hlt
       have hss:=sprK_succ m.tris L k
       have hsl:=sprK_len m.tris L k
       have hkm:=hKm k hlt
       generalize tAt m.tris k = t at *
       obtain⟨_,hp'⟩:=List.getElem?_eq_some_iff.1 hp3
       obtain⟨_,hLi'⟩:=List.getElem?_eq_some_iff.1 hLi
       generalize lAt L k = v at hLi hLi' hss
       have htn:=take_ne (a:=minE (gOf m.tris L) (edgesOf t) v) hsl hLi
       rw [← hss] at htn
       have htkk:List.take k (ics (sprK m.tris L k)) = ics (sprK m.tris L k):=List.take_of_length_le (by simp [ics,hsl])
       have hnum:∀ e ∈ edgesOf t,CallIs P fn [useV (lw K (gOf m.tris L)),e.und.enc] (.i .i64 (gOf m.tris L e.und)):=fun e he=>by
        have:=hn (lw K (gOf m.tris L)) e.und (lw_asc hKa _) (by rw [hll];omega)
        rwa [lw_num hKa _ (hkm e he)] at this
       have hic:ics (sprK m.tris L (k + 1)) = ics (sprK m.tris L k) ++ [[.i .i64 (minE (gOf m.tris L) (edgesOf t) v)]]:=by rw [hss];simp [ics]
       generalize gOf m.tris L = g at *
       generalize hag:decide (sprK m.tris L k ≠ List.take k L) = ag at *
       simp [go_sem,isV,tsV,hlt,hp3,hp',tcs,hLi,hLi',show k < L.length by omega]
       refine ACall_is (hd t) ?_
       have hlen:(edgesOf t).length ≤ 3:=edgesK_le t 3
       simp [go_sem,psV]
       generalize hS:sprK m.tris L k = S at *
       refine AS_loop (α:=Nat) (fun j=>j ≤ (edgesOf t).length)
        (fun j=>⟨[(1,isV L),(6,.own 2 (K.length + 1) 0 K.length),(13,.own 3 (k + 1) 0 k),(14,.b ag),(15,.i .i64 k),(17,.i .i64 (minE g ((edgesOf t).take j) v)),(70,tsV m.tris),(71,.i .i64 m.tris.length),(72,.i .i64 k),(82,psV (edgesOf t)),(83,.i .i64 (edgesOf t).length),(84,.i .i64 j)],
         [.dead,.dead,.arr (K.length + 1) 3 ((lw K g).map uCs),.arr (k + 1) 1 (ics S)]⟩)
        (fun j=>(edgesOf t).length - j) 0 (Nat.zero_le _) ?_ ?_
       ·simp [go_sem,isV,tsV,psV,minE]
        exact⟨uCs_cl2 _ _,ics_cl _ _⟩
       ·intro j hj
        by_cases hjl:j = (edgesOf t).length
        ·subst hjl
         rw [List.take_length]
         generalize minE g (edgesOf t) v = u at *
         cases ag
         ·simp (disch:=omega) [go_sem,isV,tsV,psV,wrap64_small,hLi,hLi',show k < L.length by omega,htkk]
          refine⟨⟨by simp [ics,hsl],by omega,by omega⟩,k + 1,by omega,by omega,⟨rfl,?_,by simp⟩,uCs_cl2 _ _,⟨rfl,hic.symm⟩,ics_cl _ _⟩
          have h:=htn
          simp only [Bool.false_or,ne_eq,decide_not] at h
          rw [h]
          by_cases huv:u = v <;> simp [huv]
         ·simp (disch:=omega) [go_sem,isV,tsV,psV,wrap64_small,hLi,hLi',show k < L.length by omega,htkk]
          exact⟨⟨by simp [ics,hsl],by omega,by omega⟩,k + 1,by omega,by omega,⟨rfl,by simpa using htn,by simp⟩,uCs_cl2 _ _,⟨rfl,hic.symm⟩,ics_cl _ _⟩
        ·have hjt:j < (edgesOf t).length:=by omega
         have hq:(edgesOf t)[j]? = some (edgesOf t)[j]:=List.getElem?_eq_getElem hjt
         have hne:=hnum _ (List.getElem_mem hjt)
         have hms:minE g ((edgesOf t).take (j + 1)) v = min (minE g ((edgesOf t).take j) v) (g (edgesOf t)[j].und):=by rw [take_succ_get hq,minE_snoc]
         generalize (edgesOf t)[j] = e at hq hne hms
         obtain⟨_,hq'⟩:=List.getElem?_eq_some_iff.1 hq
         generalize minE g ((edgesOf t).take j) v = u at *
         generalize g e.und = ge at *
         simp [go_sem,isV,psV,hjt,hq,hq',pcs]
         refine ACall_is (hv e) ?_
         simp [go_sem,psV]
         refine ACall_lend (vs:=[useV (lw K g),e.und.enc]) ?_ (hne []) rfl ?_
         ·exact frzAll_own rfl (by simp [hll]) (uCs_isD _) (by simp [frzAll,frz,frz0,P2.enc,pcs])
         simp (disch:=omega) [go_sem,isV,psV,wrap64_small,min_if]
         exact⟨j + 1,by omega,by omega,⟨hms.symm,.inr rfl,by simp⟩,uCs_cl2 _ _,ics_cl _ _⟩
    ·have hlt:i < m.tris.length:=by omega
     have hp3:m.tris[i]? = some (tAt m.tris i):=by unfold tAt;rw [List.getElem?_eq_getElem hlt];rfl
     have hLi:=hLb i hlt
     have hps:=pairsK_succ m.tris L i
     have hkm:=hKm i hlt
     generalize tAt m.tris i = t at *
     obtain⟨_,hp'⟩:=List.getElem?_eq_some_iff.1 hp3
     obtain⟨_,hLi'⟩:=List.getElem?_eq_some_iff.1 hLi
     generalize lAt L i = v at hLi hLi' hps
     generalize hQ:pairsK m.tris L i = Q at *
     simp [go_sem,isV,Mesh.cs,tsV,hlt,hp3,hp',tcs]
     refine ACall_is (hd t) ?_
     have hlen:(edgesOf t).length ≤ 3:=edgesK_le t 3
     simp [go_sem,psV]
     refine AS_loop (α:=Nat) (fun j=>j ≤ (edgesOf t).length)
      (fun j=>⟨[(1,isV L),(2,.p 0 1 0 0),(6,.own 2 (K.length + 1) 0 K.length),(8,.i .i64 i),(35,tsV m.tris),(36,.i .i64 m.tris.length),(37,.i .i64 i),(43,psV (edgesOf t)),(44,.i .i64 (edgesOf t).length),(45,.i .i64 j)],
       [.arr 1 2 [m.cs],.dead,.arr (K.length + 1) 3 ((lw K (leastV L.length (Q ++ ((edgesOf t).take j).map fun e=>(e.und,v)))).map uCs)]⟩)
      (fun j=>(edgesOf t).length - j) 0 (Nat.zero_le _) ?_ ?_
     ·simp [go_sem,isV,Mesh.cs,tsV,vsV,psV]
      exact uCs_cl2 _ _
     ·intro j hj
      by_cases hjl:j = (edgesOf t).length
      ·subst hjl
       rw [List.take_length,← hps]
       simp (disch:=omega) [go_sem,isV,Mesh.cs,tsV,vsV,psV,wrap64_small]
       exact⟨i + 1,by omega,by omega,by simp,rfl,uCs_cl2 _ _⟩
      ·have hjt:j < (edgesOf t).length:=by omega
       have hq:(edgesOf t)[j]? = some (edgesOf t)[j]:=List.getElem?_eq_getElem hjt
       have hmem:=hkm _ (List.getElem_mem hjt)
       have htk:((edgesOf t).take (j + 1)).map (fun e=>(e.und,v)) = ((edgesOf t).take j).map (fun e=>(e.und,v)) ++ [((edgesOf t)[j].und,v)]:=by rw [take_succ_get hq,List.map_append];rfl
       generalize (edgesOf t)[j] = e at hq hmem htk
       obtain⟨_,hq'⟩:=List.getElem?_eq_some_iff.1 hq
       obtain⟨p,hpk⟩:=List.getElem?_of_mem hmem
       have hsn:∀ a,leastV L.length (Q ++ ((edgesOf t).take (j + 1)).map fun e=>(e.und,v)) a = if a = e.und then min (leastV L.length (Q ++ ((edgesOf t).take j).map fun e=>(e.und,v)) a) v else leastV L.length (Q ++ ((edgesOf t).take j).map fun e=>(e.und,v)) a:=fun a=>by
        rw [htk,← List.append_assoc,leastV_snoc]
       have hset:=lw_map_set hKa (leastV L.length (Q ++ ((edgesOf t).take j).map fun e=>(e.und,v))) (leastV L.length (Q ++ ((edgesOf t).take (j + 1)).map fun e=>(e.und,v))) hpk (fun a ha hne=>by rw [hsn,if_neg hne]) (n:=min (leastV L.length (Q ++ ((edgesOf t).take j).map fun e=>(e.und,v)) e.und) v) (by rw [hsn,if_pos rfl])
       have hnx:∀ W,W = (lw K (leastV L.length (Q ++ ((edgesOf t).take (j + 1)).map fun e=>(e.und,v)))).map uCs→∃ x',x' ≤ (edgesOf t).length∧(edgesOf t).length - x' < (edgesOf t).length - j∧(j:Int) + 1 = x'∧W = (lw K (leastV L.length (Q ++ ((edgesOf t).take x').map fun e=>(e.und,v)))).map uCs:=fun W hW=>⟨j + 1,by omega,by omega,by simp,hW⟩
       have hwg:=lw_get (leastV L.length (Q ++ ((edgesOf t).take j).map fun e=>(e.und,v))) hpk
       have hwp:=lw_pl hKa (leastV L.length (Q ++ ((edgesOf t).take j).map fun e=>(e.und,v))) hpk
       generalize leastV L.length (Q ++ ((edgesOf t).take (j + 1)).map fun e=>(e.und,v)) = g' at *
       generalize leastV L.length (Q ++ ((edgesOf t).take j).map fun e=>(e.und,v)) = g at *
       obtain⟨hwl,hwg'⟩:=List.getElem?_eq_some_iff.1 hwg
       have hpl:=(hp (lw K g) e.und (lw_asc hKa g) (by rw [hll];omega)) []
       rw [hwp] at hpl
       simp [go_sem,isV,psV,hjt,hq,hq',pcs]
       refine ACall_is (hv e) ?_
       simp [go_sem,psV]
       refine ACall_lend (vs:=[useV (lw K g),e.und.enc]) ?_ hpl rfl ?_
       ·exact frzAll_own rfl (by simp [hll]) (uCs_isD _) (by simp [frzAll,frz,frz0,P2.enc,pcs])
       simp (disch:=omega) [go_sem,isV,psV,hwg,hwg',hll,useCs,hLi,hLi',wrap64_small,min_if,hset,show p < K.length by rw [hll] at hwl;exact hwl,show i < L.length by omega]
       obtain⟨x',q1,q2,q3,q4⟩:=hnx _ rfl
       rw [List.map_take] at q4
       refine⟨x',q1,q2,⟨.inr rfl,q3⟩,?_,q4,uCs_cl2 _ _⟩
       intro x hx
       simp [Mesh.cs] at hx
       rcases hx with rfl | rfl <;> rfl
  ·have hlt:k < K.length:=by omega
   have hq:K[k]? = some K[k]:=List.getElem?_eq_getElem hlt
   generalize K[k] = e at hq
   have hwg:=lw_get (gK K L.length k) hq
   obtain⟨hwl,hwg'⟩:=List.getElem?_eq_some_iff.1 hwg
   have hix:K.idxOf e = k:=by
    obtain⟨q1,q2⟩:=List.getElem?_eq_some_iff.1 hq
    have:=hKn.idxOf_getElem k q1
    rwa [q2] at this
   have hset:=lw_map_set hKa (gK K L.length k) (gK K L.length (k + 1)) hq (fun a ha hne=>by
    have hne2:K.idxOf a ≠ k:=fun hh=>by
     have h1:=List.idxOf_lt_length_iff.2 ha
     have h2:=List.getElem_idxOf h1
     have h3:K[K.idxOf a]? = some a:=by rw [List.getElem?_eq_getElem h1,h2]
     rw [hh,hq] at h3
     exact hne (Option.some.inj h3).symm
    unfold gK
    by_cases h:K.idxOf a < k
    ·rw [if_pos h,if_pos (by omega)]
    ·rw [if_neg h,if_neg (by omega)]) (n:=(L.length:Int)) (by simp [gK,hix])
   generalize gK K L.length k = g at *
   simp (disch:=omega) [go_sem,isV,Mesh.cs,hlt,hwg,hwg',hll,useCs,wrap64_small,hset]
   exact⟨k + 1,by omega,by omega,by simp,⟨rfl,rfl⟩,rfl,uCs_cl2 _ _⟩
end
end Go.Abs
