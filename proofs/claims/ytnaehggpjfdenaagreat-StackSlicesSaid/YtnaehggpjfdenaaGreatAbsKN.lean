/- Maps: what the instructions on them come to. -/
import Derived.Test.YtnaehggpjfdenaaGreatAbsKM
set_option linter.unusedVariables false
set_option linter.unusedSimpArgs false
namespace Go.Abs
open Go.RowKit
section
variable {P:Program} {J:Nat->Prop} {m:List Ent} {w:World} {h:List O}
theorem Q2e (hr:RS J h m w) {id:Nat} {x:Value} (hx:RV J m w (.mp id) x) {ents:List (V × V)} (ho:h[id]?=some (.mp ents)) :
  ∃en B es,m[id]?=some en/\en.gen=1/\en.blk=some B/\x=.map (some B)/\w.heap[B]?=some (.map es es.size)/\EntsOk J m w ents es.toList/\(∀(i:Nat) (k v:V),ents[i]?=some (k,v)->∃e:MapEntry,es[i]?=some e/\e.born=i):=by
 obtain⟨_,en,hen,_,hp⟩:=hx;have hobj:=hr.obj id en _ hen ho;simp only[RO]at hobj;obtain⟨h0,B,hB,es,h1,h2,h3⟩:=hobj;obtain⟨B',hB',rfl⟩:=hp h0.symm;obtain rfl:=Option.some.inj (hB.symm.trans hB');refine⟨en,B,es,hen,h0,hB,rfl,h1,⟨by simpa using h2,λi k v hi=>?_⟩,λi k v hi=>?_⟩
 ·obtain⟨e,q1,_,q2,q3⟩:=h3 i k v hi;exact⟨e,by simpa using q1,q2,q3⟩
 ·obtain⟨e,q1,q2,_⟩:=h3 i k v hi;exact⟨e,q1,q2⟩
theorem Qam (hr:RS J h m w) {id:Nat} {x:Value} (hx:RV J m w (.mp id) x) {ents:List (V × V)} (ho:Zm h (.mp id)=some ents) :
  ∃en B es c,m[id]?=some en/\en.gen=1/\en.blk=some B/\x=.map (some B)/\w.heap[B]?=some (.map es c)/\EntsOk J m w ents es.toList:=by
 simp only[Zm]at ho;split at ho
 ·rename_i es' h1;obtain rfl:=Option.some.inj ho;obtain⟨en,B,es,q1,q2,q3,q4,q5,q6,_⟩:=Q2e hr hx h1;exact⟨en,B,es,_,q1,q2,q3,q4,q5,q6⟩
 ·rename_i es' h1;obtain rfl:=Option.some.inj ho;obtain⟨_,en,hen,_,hp⟩:=hx;have hobj:=hr.obj id en _ hen h1;simp only[RO]at hobj;obtain⟨h0,B,hB,es,c,h1,h2,h3⟩:=hobj;obtain⟨B',hB',rfl⟩:=hp h0.symm;obtain rfl:=Option.some.inj (hB.symm.trans hB');refine⟨en,B,es,c,hen,h0,hB,rfl,h1,⟨by simpa using h2,λi k v hi=>?_⟩⟩;obtain⟨e,q1,q2,q3⟩:=h3 i k v hi;exact⟨e,by simpa using q1,q2,q3⟩
 ·simp at ho
theorem Zb {α:Type} {l:List α} {i:Nat} {x:α} (h:l[i]?=some x):l.set i x=l:=by
 apply qy;intro j;by_cases hj:i=j
 ·subst hj;rw[qm (q8.1 h).1,h]
 ·rw[qt hj]
theorem map_set (hr:RS J h m w) {id:Nat} {en:Ent} {B:Nat} {es:Array MapEntry} (hen:m[id]?=some en) (hg:en.gen=1) (hB:en.blk=some B) (hheap:w.heap[B]?=some (.map es es.size))
  {es':Array MapEntry} {ents':List (V × V)} (hsz:es'.size=ents'.length)
  (hrel:∀(i:Nat) (k v:V),ents'[i]?=some (k,v)->∃e:MapEntry,es'[i]?=some e/\e.born=i/\RA J m w k e.key/\RA J m w v e.val) :
  (∀k,J k->({ w with heap:=w.heap.setIfInBounds B (.map es' es'.size) }:World).heap[k]?=w.heap[k]?) /\
  RS J (h.set id (.mp ents')) m { w with heap:=w.heap.setIfInBounds B (.map es' es'.size) }/\(∀n,Ev n J m w J m { w with heap:=w.heap.setIfInBounds B (.map es' es'.size) }):=by
 have hlt:B<w.heap.size:=(je.1 hheap).1;have hother:∀k,k<w.heap.size->en.blk≠some k->({ w with heap:=w.heap.setIfInBounds B (.map es' es'.size) }:World).heap[k]?=w.heap[k]?:=by
  intro k _ hk;have:B≠k:=λh=>hk (by rw[hB,h])
  simp[Array.getElem?_setIfInBounds,this]
 have hset:=Zb hen;have hJ:∀k,J k->({ w with heap:=w.heap.setIfInBounds B (.map es' es'.size) }:World).heap[k]?=w.heap[k]?:=by
  intro k hk;exact hother k (hr.jlt k hk) λhk'=>(hr.dis id en k hen hk').1 hk
 refine⟨hJ,?_,λn=>?_⟩
 ·have:=hr.upd (w':={ w with heap:=w.heap.setIfInBounds B (.map es' es'.size) }) en (.mp ents') hen (Nat.le_refl _) (λ_=>rfl) (λB' hB'=>⟨.inl hB',by rw[hB]at hB';obtain rfl:=Option.some.inj hB';simpa using hlt⟩) hother (by simp) (by
   rw[hset];simp only[RO];refine⟨hg,B,hB,es',by simp[Array.getElem?_setIfInBounds,hlt],hsz,λi k v hi=>?_⟩;obtain⟨e,q1,q2,q3,q4⟩:=hrel i k v hi;exact⟨e,q1,q2,RA.mono (λ_ h=>h) hJ (Ml.refl m) q3,RA.mono (λ_ h=>h) hJ (Ml.refl m) q4⟩)
  rw[hset]at this
  exact this
 ·have:=Ev.upd (n:=n) (J:=J) (w:=w) (w':={ w with heap:=w.heap.setIfInBounds B (.map es' es'.size) }) en hen (Nat.le_refl _) (λ_=>rfl) (λB' hB'=>.inl hB') hother (by simp) rfl rfl rfl (Nat.le_refl _);rw[hset]at this
  exact this
theorem Qwc (hr:RS J h m w) {id:Nat} {en:Ent} {B:Nat} {es:Array MapEntry} {c:Nat} (hen:m[id]?=some en) (hg:en.gen=1) (hB:en.blk=some B) (hheap:w.heap[B]?=some (.map es c))
  {es':Array MapEntry} {ents':List (V × V)} (hsz:es'.size=ents'.length) {c':Nat}
  (hrel:∀(i:Nat) (k v:V),ents'[i]?=some (k,v)->∃e:MapEntry,es'[i]?=some e/\RA J m w k e.key/\RA J m w v e.val) :
  RS J (h.set id (.md ents')) m { w with heap:=w.heap.setIfInBounds B (.map es' c') }/\(∀n,Ev n J m w J m { w with heap:=w.heap.setIfInBounds B (.map es' c') }):=by
 have hlt:B<w.heap.size:=(je.1 hheap).1;have hother:∀k,k<w.heap.size->en.blk≠some k->({ w with heap:=w.heap.setIfInBounds B (.map es' c') }:World).heap[k]?=w.heap[k]?:=by
  intro k _ hk;have:B≠k:=λh=>hk (by rw[hB,h])
  simp[Array.getElem?_setIfInBounds,this]
 have hset:=Zb hen;have hJ:∀k,J k->({ w with heap:=w.heap.setIfInBounds B (.map es' c') }:World).heap[k]?=w.heap[k]?:=by
  intro k hk;exact hother k (hr.jlt k hk) λhk'=>(hr.dis id en k hen hk').1 hk
 refine⟨?_,λn=>?_⟩
 ·have:=hr.upd (w':={ w with heap:=w.heap.setIfInBounds B (.map es' c') }) en (.md ents') hen (Nat.le_refl _) (λ_=>rfl) (λB' hB'=>⟨.inl hB',by rw[hB]at hB';obtain rfl:=Option.some.inj hB';simpa using hlt⟩) hother (by simp) (by
   rw[hset];simp only[RO];refine⟨hg,B,hB,es',c',by simp[Array.getElem?_setIfInBounds,hlt],hsz,λi k v hi=>?_⟩;obtain⟨e,q1,q3,q4⟩:=hrel i k v hi;exact⟨e,q1,RA.mono (λ_ h=>h) hJ (Ml.refl m) q3,RA.mono (λ_ h=>h) hJ (Ml.refl m) q4⟩)
  rw[hset]at this
  exact this
 ·have:=Ev.upd (n:=n) (J:=J) (w:=w) (w':={ w with heap:=w.heap.setIfInBounds B (.map es' c') }) en hen (Nat.le_refl _) (λ_=>rfl) (λB' hB'=>.inl hB') hother (by simp) rfl rfl rfl (Nat.le_refl _);rw[hset]at this
  exact this
theorem Zk {w:World} {r:Nat} {es:Array MapEntry} {c:Nat} (ho:w.heap[r]?=some (.map es c)) (o':Obj):(setObj r o').run P w=.ok () { w with heap:=w.heap.setIfInBounds r o' }:=by
 simp[setObj,Sem.run,ho]
theorem Qkc (hr:RS J h m w) (T:TypeId) (rs:Option Value) (hrs:∀x,rs=some x->(∃kt et,P.underlying T=some (.map kt et))/\∃k n,x=.int k n) :
  Fine J m w (h++[.mp []]) (.mp h.length) ((do pure (.value (<- Instr.makeMap T rs)):Sem Next).run P w):=by
 have hrun:(do pure (.value (<- Instr.makeMap T rs)):Sem Next).run P w=.ok (.value (.map (some w.heap.size))) (w.alloc (.map #[] 0)):=by
  cases rs with
  | none=>rfl
  | some x =>
    obtain⟨⟨kt,et,hu⟩,k,n,rfl⟩:=hrs x rfl;simp[Instr.makeMap,run_underlying hu,asInt,asIntOf,newObj,Sem.run]
 rw[hrun];have hw:∀k,k<w.heap.size->(w.alloc (.map #[] 0)).heap[k]?=w.heap[k]?:=λk hk=>heap_alloc_old w _ hk
 have hs:w.heap.size<(w.alloc (.map #[] 0)).heap.size:=by show _<(w.heap.push _).size;simp
 have h1:RS J (h++[.mp []]) (m++[⟨1,0,some w.heap.size,0,0⟩]) (w.alloc (.map #[] 0)):=RS.push hr _ _ (λB hB=>by simp at hB;omega) hw (by omega) (by
  simp only[RO];exact⟨trivial,w.heap.size,rfl,#[],heap_alloc_new w _,rfl,λi k v hi=>by simp at hi⟩)
 refine⟨_,_,J,_,.inl rfl,⟨rfl,⟨1,0,some w.heap.size,0,0⟩,by rw[<- hr.len];exact Yr _ _,Nat.le_refl _,λ_=>⟨_,rfl,rfl⟩⟩,h1,λn=>Ev.push _ (λB hB=>by simp at hB;omega) hw (by omega) rfl rfl rfl (Nat.le_refl _),Ml.app _ _⟩
theorem fine_lk {T kt et:TypeId} {ks:List Nat} {zero:V} (hT:P.underlying T=some (.map kt et)) (hk:J0 P kt=some ks) (hz:zV P et=some zero) (hr:RS J h m w) {M:V} {mv:Value} (hM:RV J m w M mv)
  {X:V} {x:Value} (hx:RV J m w X x) {ents:List (V × V)} (hents:Zm h M=some ents) {res:Option (Nat × V)} (hf:Qo ks X ents=some res) (ok:Bool) :
  Fine J m w h (match res with | some (_,v)=>if ok then .t [v,.b true] else v | none=>if ok then .t [zero,.b false] else zero) ((do pure (.value (<- Instr.lookup T mv x ok)):Sem Next).run P w):=by
 obtain⟨z,hzr,hzv⟩:=zV_ok hz;have key:∃es:Array MapEntry,((mv=.map none/\es=#[])∨∃B c,mv=.map (some B)/\w.heap[B]?=some (.map es c))/\EntsOk J m w ents es.toList:=by
  cases M<;>simp only[Zm]at hents<;>try (simp at hents;done)
  ·rename_i id;obtain⟨en,B,es,c,_,_,_,h1,h2,h3⟩:=Qam hr hM (ents:=ents) (by simp only[Zm];exact hents);exact⟨es,.inr ⟨B,c,h1,h2⟩,h3⟩
  ·obtain rfl:=Option.some.inj hents;have:mv=.map none:=hM;exact⟨#[],.inl ⟨this,rfl⟩,⟨rfl,λi k v hi=>by simp at hi⟩⟩
 obtain⟨es,hmv,hes⟩:=key;have hck:=λem=>U3 hk hx hf em
 have hfk:=Qka hk hx hes hf;have hrun:∀(r:Option (Nat × Value)),(Instr.findKey kt x es.toList).run P w=.ok r w->(Instr.lookup T mv x ok).run P w=.ok (match r with | some (_,v)=>if ok then .tuple #[v,.bool true] else v | none=>if ok then .tuple #[z,.bool false] else z) w:=by
  intro r hr;rcases hmv with⟨rfl,rfl⟩ | ⟨B,c,rfl,hb⟩
  ·simp only[Instr.lookup,Sem.run_bind,run_underlying hT,Result.andThen_ok,Sem.run_pure,hck,hr];cases r with
   | none=>simp only[Sem.run_bind,hzr,Result.andThen_ok,Sem.run_pure]
   | some p=>simp only[Sem.run_bind,Result.andThen_ok,Sem.run_pure]
  ·simp only[Instr.lookup,Sem.run_bind,run_underlying hT,Result.andThen_ok,Sem.run_pure,MapKept.run_getObj_map hb,hck,hr];cases r with
   | none=>simp only[Sem.run_bind,hzr,Result.andThen_ok,Sem.run_pure]
   | some p=>simp only[Sem.run_bind,Result.andThen_ok,Sem.run_pure]
 cases res with
 | none =>
   simp only at hfk;simp only[Sem.run_bind,hrun none hfk,Result.andThen_ok,Sem.run_pure];cases ok
   ·exact Fine.pure hr (Z7 (hzv J m w))
   ·refine Fine.pure hr ⟨#[z,.bool false],rfl,rfl,λi v c h1 h2=>?_⟩
    match i with
    | 0=>simp at h1 h2;subst h1;subst h2;exact hzv J m w
    | 1=>simp at h1 h2;subst h1;subst h2;exact Qy (Qv (.b _))
    | i+2=>simp at h1
 | some p =>
   obtain⟨j,v⟩:=p;obtain⟨e,h1,h2,h3,_⟩:=hfk;simp only[Sem.run_bind,hrun _ h3,Result.andThen_ok,Sem.run_pure];cases ok
   ·exact Fine.pure hr (Z7 h2)
   ·refine Fine.pure hr ⟨#[e.val,.bool true],rfl,rfl,λi v c h1 h3=>?_⟩
    match i with
    | 0=>simp at h1 h3;subst h1;subst h3;exact h2
    | 1=>simp at h1 h3;subst h1;subst h3;exact Qy (Qv (.b _))
    | i+2=>simp at h1
theorem Qxw {es:Array MapEntry} {ents:List (V × V)} (h:EntsOk J m w ents es.toList) {i:Nat} {k v:V} (hi:ents[i]?=some (k,v)):∃e:MapEntry,es[i]?=some e/\RA J m w k e.key/\RA J m w v e.val:=by
 obtain⟨e,h1,h2⟩:=h.2 i k v hi;exact⟨e,by simpa using h1,h2⟩
theorem Qb5 {es:Array MapEntry} {ents:List (V × V)} (hes:EntsOk J m w ents es.toList) (hborn:∀(i:Nat) (k v:V),ents[i]?=some (k,v)->∃e:MapEntry,es[i]?=some e/\e.born=i)
  {j:Nat} {e:MapEntry} (he:es[j]?=some e) {K Vv:V} {g:MapEntry->MapEntry} (hb:(g e).born=e.born) (hk:RA J m w K (g e).key) (hv:RA J m w Vv (g e).val) :
  (es.modify j g).size=(ents.set j (K,Vv)).length/\∀(i:Nat) (k v:V),(ents.set j (K,Vv))[i]?=some (k,v)->∃e':MapEntry,(es.modify j g)[i]?=some e'/\e'.born=i/\RA J m w k e'.key/\RA J m w v e'.val:=by
 refine⟨by have:=hes.1;simpa using this,λi k v hi=>?_⟩;rw[Array.getElem?_modify];by_cases hij:j=i
 ·subst hij;rw[List.getElem?_set]at hi
  simp only[if_true]at hi;split at hi
  ·obtain⟨rfl,rfl⟩:=Prod.mk.injEq .. ▸ Option.some.inj hi;rename_i hlt;obtain⟨⟨k0,v0⟩,h0⟩:∃p,ents[j]?=some p:=⟨_,q9 hlt⟩
   obtain⟨e1,h1,h2⟩:=hborn j k0 v0 h0;obtain rfl:=Option.some.inj (he.symm.trans h1);exact⟨g e,by simp[he],by rw[hb,h2],hk,hv⟩
  ·simp at hi
 ·rw[qt hij]at hi
  obtain⟨e1,h1,h2⟩:=hborn i k v hi;obtain⟨e2,h3,h4,h5⟩:=Qxw hes hi;obtain rfl:=Option.some.inj (h1.symm.trans h3);exact⟨e1,by simp[hij,h1],h2,h4,h5⟩
theorem Qej {es:Array MapEntry} {ents:List (V × V)} (hes:EntsOk J m w ents es.toList) (hborn:∀(i:Nat) (k v:V),ents[i]?=some (k,v)->∃e:MapEntry,es[i]?=some e/\e.born=i)
  {K Vv:V} {x y:Value} (hk:RA J m w K x) (hv:RA J m w Vv y) :
  (es.push { key:=x,val:=y,born:=es.size }).size=(ents++[(K,Vv)]).length/\∀(i:Nat) (k v:V),(ents++[(K,Vv)])[i]?=some (k,v)->∃e':MapEntry,(es.push { key:=x,val:=y,born:=es.size })[i]?=some e'/\e'.born=i/\RA J m w k e'.key/\RA J m w v e'.val:=by
 have hsz:es.size=ents.length:=by have:=hes.1;simpa using this
 refine⟨by simp[hsz],λi k v hi=>?_⟩;by_cases hlt:i<ents.length
 ·rw[qd hlt]at hi
  obtain⟨e1,h1,h2⟩:=hborn i k v hi;obtain⟨e2,h3,h4,h5⟩:=Qxw hes hi;obtain rfl:=Option.some.inj (h1.symm.trans h3);exact⟨e1,by rw[Array.getElem?_push,if_neg (by omega)];exact h1,h2,h4,h5⟩
 ·rw[qf (by omega)]at hi
  rcases Nat.eq_zero_or_pos (i-ents.length) with h0 | h0
  ·rw[h0]at hi
   simp at hi;obtain⟨rfl,rfl⟩:=hi;exact⟨_,by rw[Array.getElem?_push,if_pos (by omega)],by simp;omega,hk,hv⟩
  ·rw[show i-ents.length=(i-ents.length-1)+1 by omega]at hi
   simp at hi
theorem Qkb {T kt et:TypeId} {ks:List Nat} (hT:P.underlying T=some (.map kt et)) (hk:J0 P kt=some ks) (hr:RS J h m w) {id:Nat} {mv:Value} (hM:RV J m w (.mp id) mv)
  {X:V} {x:Value} (hx:RV J m w X x) {Y:V} {y:Value} (hy:RA J m w Y y) {ents:List (V × V)} (ho:h[id]?=some (.mp ents)) {res:Option (Nat × V)} (hf:Qo ks X ents=some res) :
  Fine J m w (match res with | some (i,_)=>h.set id (.mp (ents.set i (X,Y))) | none=>h.set id (.mp (ents++[(X,Y)]))) .any ((do Instr.mapUpdate T mv x y;pure .skip:Sem Next).run P w):=by
 obtain⟨en,B,es,hen,hg,hB,rfl,hheap,hes,hborn⟩:=Q2e hr hM ho;have hck:=U3 hk hx hf false;have hfk:=Qka hk hx hes hf;have hxa:RA J m w X x:=by
  obtain⟨h1,_⟩:=Kp hf;cases X<;>first | exact hx | (simp[Zl]at h1;done)
 cases res with
 | none =>
   simp only at hfk;have hrun:(do Instr.mapUpdate T (.map (some B)) x y;pure .skip:Sem Next).run P w=.ok .skip { w with heap:=w.heap.setIfInBounds B (.map (es.push { key:=x,val:=y,born:=es.size }) (es.size+1)) }:=by
    simp only[Instr.mapUpdate,Sem.run_bind,run_underlying hT,Result.andThen_ok,MapKept.run_getObj_map hheap,hck,hfk,Zk hheap,Sem.run_pure]
   rw[hrun];obtain⟨q1,q2⟩:=Qej hes hborn hxa hy;obtain⟨g1,g2,g3⟩:=map_set hr hen hg hB hheap q1 q2;rw[show (es.push { key:=x,val:=y,born:=es.size:MapEntry }).size=es.size+1 by simp]at g2 g3
   exact⟨undef,_,J,m,.inr ⟨rfl,rfl⟩,trivial,g2,g3,Ml.refl m⟩
 | some p =>
   obtain⟨j,v⟩:=p;obtain⟨e,h1,h2,h3,k,h4,h5,h6,h7⟩:=hfk;have he:es[j]?=some e:=by simpa using h1
   obtain⟨e',he',hke⟩:=Qxw hes h4;obtain rfl:=Option.some.inj (he.symm.trans he');obtain⟨hxy,hkeep⟩:=Qar hk hx (Z7 hke.1) h6 h5 h7;have hrun:(do Instr.mapUpdate T (.map (some B)) x y;pure .skip:Sem Next).run P w=.ok .skip { w with heap:=w.heap.setIfInBounds B (.map (es.modify j λe=>{ e with key:=x,val:=y }) es.size) }:=by
    simp only[Instr.mapUpdate,Sem.run_bind,run_underlying hT,Result.andThen_ok,MapKept.run_getObj_map hheap,hck,h3,he,Option.map_some,Option.getD_some,hkeep,Zk hheap,Sem.run_pure]
   rw[hrun];obtain⟨q1,q2⟩:=Qb5 hes hborn he (K:=X) (Vv:=Y) (g:=λe=>{ e with key:=x,val:=y }) rfl hxa hy;obtain⟨g1,g2,g3⟩:=map_set hr hen hg hB hheap q1 q2;rw[Array.size_modify]at g2 g3
   exact⟨undef,_,J,m,.inr ⟨rfl,rfl⟩,trivial,g2,g3,Ml.refl m⟩
theorem Qeg {T kt et:TypeId} {ks:List Nat} (hT:P.underlying T=some (.map kt et)) (hk:J0 P kt=some ks) (hr:RS J h m w) {id:Nat} {mv:Value} (hM:RV J m w (.mp id) mv)
  {X:V} {x:Value} (hx:RV J m w X x) {Y:V} {y:Value} (hy:RA J m w Y y) {ents:List (V × V)} (ho:h[id]?=some (.md ents)) {i:Nat} {v0:V} (hf:Qo ks X ents=some (some (i,v0))) :
  Fine J m w (h.set id (.md (ents.set i (X,Y)))) .any ((do Instr.mapUpdate T mv x y;pure .skip:Sem Next).run P w):=by
 obtain⟨en,B,es,c,hen,hg,hB,rfl,hheap,hes⟩:=Qam hr hM (ents:=ents) (by simp only[Zm,ho]);have hck:=U3 hk hx hf false;have hfk:=Qka hk hx hes hf;have hxa:RA J m w X x:=by
  obtain⟨h1,_⟩:=Kp hf;cases X<;>first | exact hx | (simp[Zl]at h1;done)
 obtain⟨e,h1,h2,h3,k,h4,h5,h6,h7⟩:=hfk;have he:es[i]?=some e:=by simpa using h1
 have hgetE:∀{i:Nat} {k v:V},ents[i]?=some (k,v)->∃e:MapEntry,es[i]?=some e/\RA J m w k e.key/\RA J m w v e.val:=by
  intro i k v hi;obtain⟨e,h1,h2⟩:=hes.2 i k v hi;exact⟨e,by simpa using h1,h2⟩
 obtain⟨e',he',hke⟩:=hgetE h4;obtain rfl:=Option.some.inj (he.symm.trans he');obtain⟨hxy,hkeep⟩:=Qar hk hx (Z7 hke.1) h6 h5 h7;have hrun:(do Instr.mapUpdate T (.map (some B)) x y;pure .skip:Sem Next).run P w=.ok .skip { w with heap:=w.heap.setIfInBounds B (.map (es.modify i λe=>{ e with key:=x,val:=y }) c) }:=by
  simp only[Instr.mapUpdate,Sem.run_bind,run_underlying hT,Result.andThen_ok,MapKept.run_getObj_map hheap,hck,h3,he,Option.map_some,Option.getD_some,hkeep,Zk hheap,Sem.run_pure]
 rw[hrun];have hlen:es.size=ents.length:=by have:=hes.1;simpa using this
 obtain⟨g2,g3⟩:=Qwc hr hen hg hB hheap (es':=es.modify i λe=>{ e with key:=x,val:=y }) (ents':=ents.set i (X,Y)) (c':=c) (by simp[hlen]) (λq k v hq=>by
  rw[Array.getElem?_modify];by_cases hiq:i=q
  ·subst hiq;rw[List.getElem?_set]at hq
   simp only[if_true]at hq;split at hq
   ·obtain⟨rfl,rfl⟩:=Prod.mk.injEq .. ▸ Option.some.inj hq;exact⟨{ e with key:=x,val:=y },by simp[he],hxa,hy⟩
   ·simp at hq
  ·rw[qt hiq]at hq
   obtain⟨e2,q1,q2⟩:=hgetE hq;exact⟨e2,by simp[hiq,q1],q2⟩)
 exact⟨undef,_,J,m,.inr ⟨rfl,rfl⟩,trivial,g2,g3,Ml.refl m⟩
theorem Qsh {T kt et kt' rt:TypeId} {ks:List Nat} (hT:P.underlying T=some (.map kt et)) (hk:J0 P kt=some ks) (hr:RS J h m w) {id:Nat} {mv:Value} (hM:RV J m w (.mp id) mv)
  {X:V} {x:Value} (hx:RV J m w X x) {ents:List (V × V)} (ho:Zm h (.mp id)=some ents) {i:Nat} {v0:V} (hf:Qo ks X ents=some (some (i,v0))) :
  Fine J m w (h.set id (.md (ents.eraseIdx i))) (.t []) ((do pure (.value (<- Builtin.delete_ #[T,kt'] rt #[mv,x])):Sem Next).run P w):=by
 obtain⟨en,B,es,c,hen,hg,hB,rfl,hheap,hes⟩:=Qam hr hM ho;have hck:=λem=>U3 hk hx hf em
 have hfk:=Qka hk hx hes hf;obtain⟨e,h1,h2,h3,k,h4,h5,h6,h7⟩:=hfk;have hlen:es.size=ents.length:=by have:=hes.1;simpa using this
 have hrun:(do pure (.value (<- Builtin.delete_ #[T,kt'] rt #[.map (some B),x])):Sem Next).run P w=.ok (.value (.tuple #[])) { w with heap:=w.heap.setIfInBounds B (.map (es.eraseIdxIfInBounds i) c) }:=by
  simp[Builtin.delete_,Sem.run_bind,run_underlying hT,Result.andThen_ok,MapKept.run_getObj_map hheap,hck,h3,Zk hheap,Sem.run_pure]
 rw[hrun];have hi:i<es.size:=by have:=(q8.1 h4).1;omega
 obtain⟨g2,g3⟩:=Qwc hr hen hg hB hheap (es':=es.eraseIdxIfInBounds i) (ents':=ents.eraseIdx i) (c':=c) (by
  have hi2:i<ents.length:=by omega
  rw[Array.eraseIdxIfInBounds_eq,dif_pos hi,List.length_eraseIdx,if_pos hi2];simp[hlen]) (λq k v hq=>by
  have hq2:(es.eraseIdxIfInBounds i)[q]?=(es.toList.eraseIdx i)[q]?:=by
   rw[Array.eraseIdxIfInBounds_eq,dif_pos hi];rw[<- Array.getElem?_toList,Array.toList_eraseIdx]
  rw[hq2];rw[List.getElem?_eraseIdx]at hq ⊢
  split at hq
  ·rename_i hlt;rw[if_pos hlt];exact hes.2 q k v hq
  ·rename_i hlt;rw[if_neg hlt];exact hes.2 _ k v hq)
 exact⟨_,_,J,m,.inl rfl,⟨#[],rfl,Pw.nil⟩,g2,g3,Ml.refl m⟩
theorem Qsg {T kt et:TypeId} {ks:List Nat} {zero:V} (hT:P.underlying T=some (.map kt et)) (hk:J0 P kt=some ks) (hz:zV P et=some zero) (hr:RS J h m w) {id:Nat} {mv:Value} (hM:RV J m w (.mp id) mv)
  {X:V} {x:Value} (hx:RV J m w X x) {ents:List (V × V)} (ho:h[id]?=some (.mp ents)) {res:Option (Nat × V)} (hf:Qo ks X ents=some res) :
  Fine J m w (match res with | some (i,v)=>h.set id (.mp (ents.set i (X,v))) | none=>h.set id (.mp (ents++[(X,zero)]))) (match res with | some (i,v)=>.t [v,.i .i64 i] | none=>.t [zero,.i .i64 ents.length]) ((do pure (.value (<- Instr.mapEntry T mv x)):Sem Next).run P w):=by
 obtain⟨en,B,es,hen,hg,hB,rfl,hheap,hes,hborn⟩:=Q2e hr hM ho;obtain⟨z,hzr,hzv⟩:=zV_ok hz;have hck:=U3 hk hx hf false;have hfk:=Qka hk hx hes hf;have hsz:es.size=ents.length:=by have:=hes.1;simpa using this
 have hxa:RA J m w X x:=by
  obtain⟨h1,_⟩:=Kp hf;cases X<;>first | exact hx | (simp[Zl]at h1;done)
 have htup:∀(w':World) (V1:V) (v1:Value) (n:Nat),RA J m w' V1 v1->RV J m w' (.t [V1,.i .i64 n]) (.tuple #[v1,.int .i64 n]):=by
  intro w' V1 v1 n hv;refine⟨#[v1,.int .i64 n],rfl,rfl,λi v c h1 h2=>?_⟩
  match i with
  | 0=>simp at h1 h2;subst h1;subst h2;exact hv
  | 1=>simp at h1 h2;subst h1;subst h2;exact Qy (Qv (.i _ _))
  | i+2=>simp at h1
 cases res with
 | none =>
   simp only at hfk;have hrun:(do pure (.value (<- Instr.mapEntry T (.map (some B)) x)):Sem Next).run P w=.ok (.value (.tuple #[z,.int .i64 es.size])) { w with heap:=w.heap.setIfInBounds B (.map (es.push { key:=x,val:=z,born:=es.size }) (es.size+1)) }:=by
    simp only[Instr.mapEntry,Sem.run_bind,run_underlying hT,Result.andThen_ok,MapKept.run_getObj_map hheap,hck,hfk,hzr,Zk hheap,Sem.run_pure,goInt]
   rw[hrun];obtain⟨q1,q2⟩:=Qej hes hborn hxa (hzv J m w);obtain⟨g1,g2,g3⟩:=map_set hr hen hg hB hheap q1 q2;rw[show (es.push { key:=x,val:=z,born:=es.size:MapEntry }).size=es.size+1 by simp]at g2 g3
   refine⟨_,_,J,m,.inl rfl,?_,g2,g3,Ml.refl m⟩;rw[hsz];exact htup _ _ _ _ (hzv J m _)
 | some p =>
   obtain⟨j,v⟩:=p;obtain⟨e,h1,h2,h3,k,h4,h5,h6,h7⟩:=hfk;have he:es[j]?=some e:=by simpa using h1
   obtain⟨e',he',hke⟩:=Qxw hes h4;obtain rfl:=Option.some.inj (he.symm.trans he');obtain⟨e2,he2,hbj⟩:=hborn j k v h4;obtain rfl:=Option.some.inj (he.symm.trans he2);obtain⟨hxy,hkeep⟩:=Qar hk hx (Z7 hke.1) h6 h5 h7
   have hrun:(do pure (.value (<- Instr.mapEntry T (.map (some B)) x)):Sem Next).run P w=.ok (.value (.tuple #[e.val,.int .i64 j])) { w with heap:=w.heap.setIfInBounds B (.map (es.modify j λe=>{ e with key:=x }) es.size) }:=by
    simp only[Instr.mapEntry,Sem.run_bind,run_underlying hT,Result.andThen_ok,MapKept.run_getObj_map hheap,hck,h3,he,Option.map_some,Option.getD_some,hkeep,Zk hheap,Sem.run_pure,goInt,hbj]
   rw[hrun];obtain⟨q1,q2⟩:=Qb5 hes hborn he (K:=X) (Vv:=v) (g:=λe=>{ e with key:=x }) rfl hxa h2;obtain⟨g1,g2,g3⟩:=map_set hr hen hg hB hheap q1 q2;rw[Array.size_modify]at g1 g2 g3
   exact⟨_,_,J,m,.inl rfl,htup _ _ _ _ (RA.mono (λ_ h=>h) g1 (Ml.refl m) h2),g2,g3,Ml.refl m⟩
theorem Qym (T:TypeId) (hr:RS J h m w) {id:Nat} {mv:Value} (hM:RV J m w (.mp id) mv) {k:IntKind} {n:Int} {s:Value} (hs:RV J m w (.i k n) s) (hn:0<=n) {Y:V} {y:Value} (hy:RA J m w Y y)
  {ents:List (V × V)} (ho:h[id]?=some (.mp ents)) {K V0:V} (hk:ents[n.toNat]?=some (K,V0)) :
  Fine J m w (h.set id (.mp (ents.set n.toNat (K,Y)))) .any ((do Instr.entryStore T mv s y;pure .skip:Sem Next).run P w):=by
 obtain⟨en,B,es,hen,hg,hB,rfl,hheap,hes,hborn⟩:=Q2e hr hM ho;obtain rfl:=Ze hs;obtain⟨e,he,hbj⟩:=hborn n.toNat K V0 hk;obtain⟨e2,he2,hke,hve⟩:=Qxw hes hk;obtain rfl:=Option.some.inj (he.symm.trans he2);have hfi:es.findIdx? (λe=>(e.born:Int) == n)=some n.toNat:=by
  have hlt:n.toNat<es.size:=(je.1 he).1;have hsz:es.size=ents.length:=by have:=hes.1;simpa using this
  rw[Array.findIdx?_eq_some_iff_getElem];have hall:∀i (hi:i<es.size),es[i].born=i:=by
   intro i hi;obtain⟨⟨k0,v0⟩,h0⟩:∃p,ents[i]?=some p:=⟨_,q9 (by omega)⟩
   obtain⟨e0,h1,h2⟩:=hborn i k0 v0 h0;rw[Array.getElem?_eq_getElem hi]at h1
   obtain rfl:=Option.some.inj h1;exact h2
  refine⟨hlt,by rw[hall _ hlt];simp;omega,λj hj=>?_⟩;rw[hall j (by omega)];simp;omega
 have hrun:(do Instr.entryStore T (.map (some B)) (.int k n) y;pure .skip:Sem Next).run P w=.ok .skip { w with heap:=w.heap.setIfInBounds B (.map (es.modify n.toNat λe=>{ e with val:=y }) es.size) }:=by
  simp only[Instr.entryStore,Sem.run_bind,Result.andThen_ok,MapKept.run_getObj_map hheap,asInt,asIntOf,hfi,Zk hheap,Sem.run_pure]
 rw[hrun];obtain⟨q1,q2⟩:=Qb5 hes hborn he (K:=K) (Vv:=Y) (g:=λe=>{ e with val:=y }) rfl hke hy;obtain⟨g1,g2,g3⟩:=map_set hr hen hg hB hheap q1 q2;rw[Array.size_modify]at g2 g3
 exact⟨undef,_,J,m,.inr ⟨rfl,rfl⟩,trivial,g2,g3,Ml.refl m⟩
theorem Ig {v:V} {c:Value} (hn:v.isT=false) (hv:RV J m w v c):RA J m w v c:=by
 cases v<;>first | exact hv | (simp[V.isT]at hn;done)
def Mnx (v:V) (h:List O) (k:V->List O->Prop):Prop :=
 match v with
 | .p id g 0 0=>match h[id]? with
   | some (.it none _ _)=>g=1/\k (.t [.b false]) h
   | some (.it (some mid) since seen)=>match h[mid]? with
     | some (.mp es)=>g=1/\es.length=since/\((∀i,i<es.length->i∈seen)->k (.t [.b false]) h) /\
       ∀i e,es[i]?=some e->i∉seen->k (.t [.b true,e.1,e.2]) (h.set id (.it (some mid) since (seen++[i])))
     | _=>False
   | _=>False
 | _=>False
theorem Qau {id:Nat} {x:Value} (hr:RS J h m w) (hx:RV J m w (.p id 1 0 0) x) {mid:Option Nat} {since:Nat} {seen:List Nat} (ho:h[id]?=some (.it mid since seen)) :
  ∃en B mb,m[id]?=some en/\en.gen=1/\en.base=0/\en.sz=0/\en.blk=some B/\x=.pointer (some ⟨B,0,none⟩)/\w.heap[B]?=some (.mapIter mb since seen.toArray since) /\
   (mid=none->mb=none)/\(∀i,mid=some i->∃e',m[i]?=some e'/\1<=e'.gen/\(1=e'.gen->∃B',e'.blk=some B'/\mb=some B')):=by
 obtain⟨_,en,hen,_,hp⟩:=hx;have hobj:=hr.obj id en _ hen ho;simp only[RO]at hobj;obtain⟨h0,h1,h2,B,hB,mb,h3,h4⟩:=hobj;obtain⟨B',hB',rfl⟩:=hp h0.symm;obtain rfl:=Option.some.inj (hB.symm.trans hB');refine⟨en,B,mb,hen,h0,h1,h2,hB,by simp[h1,h2],h3,λh5=>by subst h5;exact h4,λi h5=>by subst h5;exact h4⟩
theorem Qsf {T kt et:TypeId} (hT:P.underlying T=some (.map kt et)) (hr:RS J h m w) {M:V} {r:V} {h':List O}
  (hs:(match M with
   | .mp id=>match h[id]? with
     | some (.mp es)=>some (V.p h.length 1 0 0,h++[O.it (some id) es.length []])
     | _=>none
   | .mnil=>some (V.p h.length 1 0 0,h++[O.it none 0 []])
   | _=>none)=some (r,h')) {x:Value} (hx:RV J m w M x) :
  Fine J m w h' r ((do pure (.value (<- Instr.range T x)):Sem Next).run P w):=by
 have push:∀(o:O) (ob:Obj),RO J (m++[⟨1,0,some w.heap.size,0,0⟩]) (w.alloc ob) ⟨1,0,some w.heap.size,0,0⟩ o ->
   (do pure (.value (<- Instr.range T x)):Sem Next).run P w=.ok (.value (.pointer (some ⟨w.heap.size,0,none⟩))) (w.alloc ob) ->
   Fine J m w (h++[o]) (.p h.length 1 0 0) ((do pure (.value (<- Instr.range T x)):Sem Next).run P w):=by
  intro o ob hro hrun;rw[hrun];have hw:∀k,k<w.heap.size->(w.alloc ob).heap[k]?=w.heap[k]?:=λk hk=>heap_alloc_old w _ hk
  have hs:w.heap.size<(w.alloc ob).heap.size:=by show _<(w.heap.push _).size;simp
  have h1:RS J (h++[o]) (m++[⟨1,0,some w.heap.size,0,0⟩]) (w.alloc ob):=RS.push hr _ _ (λB hB=>by simp at hB;omega) hw (by omega) hro;refine⟨_,_,J,_,.inl rfl,⟨rfl,⟨1,0,some w.heap.size,0,0⟩,by rw[<- hr.len];exact Yr _ _,⟨Nat.le_refl _,Nat.le_refl _⟩,λ_=>⟨_,rfl,by simp⟩⟩,h1,λn=>Ev.push _ (λB hB=>by simp at hB;omega) hw (by omega) rfl rfl rfl (Nat.le_refl _),Ml.app _ _⟩
 split at hs
 ·rename_i id;split at hs
  case h_2=>simp at hs
  rename_i es ho;simp only[Option.some.injEq,Prod.mk.injEq]at hs;obtain⟨rfl,rfl⟩:=hs;obtain⟨en,B,ms,hen,hg,hB,rfl,hheap,hes,_⟩:=Q2e hr hx ho;have hsz:ms.size=es.length:=by have:=hes.1;simpa using this
  refine push _ (.mapIter (some B) ms.size #[] ms.size) ?_ ?_
  ·simp only[RO];refine⟨trivial,trivial,trivial,_,rfl,some B,by rw[<- hsz];exact heap_alloc_new w _,en,?_,by omega,λ_=>⟨B,hB,rfl⟩⟩;rw[qd (q8.1 hen).1];exact hen
  ·simp only[Sem.run_bind,run_range_map w T kt et B ms ms.size hT hheap,Result.andThen_ok,Sem.run_pure]
 ·simp only[Option.some.injEq,Prod.mk.injEq]at hs;obtain⟨rfl,rfl⟩:=hs;have:x=.map none:=hx;subst this;refine push _ (.mapIter none 0 #[] 0) ?_ ?_
  ·simp only[RO];exact⟨trivial,trivial,trivial,_,rfl,none,heap_alloc_new w _,rfl⟩
  ·simp only[Sem.run_bind,run_range_nilMap w T kt et hT,Result.andThen_ok,Sem.run_pure]
 ·simp at hs
theorem Qyi (hr:RS J h m w) {id:Nat} {x:Value} (hx:RV J m w (.p id 1 0 0) x) {mid since:Nat} {seen:List Nat} (ho:h[id]?=some (.it (some mid) since seen)) {es:List (V × V)} (hm:h[mid]?=some (.mp es)) (hsn:es.length=since)
  {i:Nat} (hl:seen.getLast? = some i) {K Vv:V} (hi:es[i]?=some (K,Vv)) :
  Fine J m w h (.t [K,Vv]) ((do pure (.value (<- Instr.entry x)):Sem Next).run P w):=by
 obtain⟨en,B,mb,hen,_,_,_,hB,rfl,h1,_,hmid⟩:=Qau hr hx ho;obtain⟨e',he',hg',hmb⟩:=hmid mid rfl;have hobj:=hr.obj mid e' _ he' hm;simp only[RO]at hobj;obtain⟨h0,B',hB',ms,h3,h4,h5⟩:=hobj;obtain⟨B2,hB2,rfl⟩:=hmb h0.symm;obtain rfl:=Option.some.inj (hB'.symm.trans hB2);obtain⟨e,he,hborn,hk,hv⟩:=h5 i K Vv hi;have hlt:i<ms.size:=(je.1 he).1
 have hf:ms.find? (λe=>e.born == i)=some e:=by
  rw[Array.find?_eq_some_iff_getElem];obtain⟨_,he2⟩:=je.1 he;refine⟨by simp[hborn],i,hlt,he2,λj hj=>?_⟩;obtain⟨⟨k0,v0⟩,h6⟩:∃p,es[j]?=some p:=⟨_,q9 (by omega)⟩
  obtain⟨e0,h7,h8,_⟩:=h5 j k0 v0 h6;rw[Array.getElem?_eq_getElem (by omega)]at h7
  have h9:=Option.some.inj h7;rw[h9];simp[h8];omega
 have hback:seen.toArray.back? = some i:=by rw[List.back?_toArray];exact hl
 have hrun:(do pure (.value (<- Instr.entry (.pointer (some ⟨B,0,none⟩)))):Sem Next).run P w=.ok (.value (.tuple #[e.key,e.val])) w:=by
  simp only[Instr.entry,getObj,Sem.run_bind,Sem.run,h1,h3,Result.andThen,hback,h4,hsn,bne_self_eq_false,Bool.false_eq_true,if_false,hf]
  rfl
 rw[hrun];refine Fine.pure hr ⟨#[e.key,e.val],rfl,rfl,λq v c a1 a2=>?_⟩
 match q with
 | 0=>simp at a1 a2;subst a1;subst a2;exact hk
 | 1=>simp at a1 a2;subst a1;subst a2;exact hv
 | q+2=>simp at a1
theorem mnx_ok (hr:RS J h m w) {Y:V} {y:Value} (hy:RV J m w Y y) {κ:V->List O->Prop} (hdo:Mnx Y h κ) (ty:TypeId) :
  ∃r h' v w',(Instr.next y false ty).run P w=.ok v w'/\κ r h'/\RV J m w' r v/\RS J h' m w'/\(∀n,Ev n J m w J m w'):=by
 unfold Mnx at hdo;split at hdo
 case h_2=>exact hdo.elim
 rename_i id g;split at hdo
 case h_3=>exact hdo.elim
 ·rename_i since seen ho;obtain⟨rfl,hk⟩:=hdo;obtain⟨en,B,mb,hen,_,_,_,hB,rfl,h1,hn,_⟩:=Qau hr hy ho;obtain rfl:=hn rfl;have hrun:(Instr.next (.pointer (some ⟨B,0,none⟩)) false ty).run P w=.ok (.tuple #[.bool false]) w:=by
   simp only[Instr.next,getObj,Sem.run_bind,Sem.run,h1,Result.andThen]
   rfl
  refine⟨_,_,_,_,hrun,hk,⟨#[.bool false],rfl,rfl,λq v c a1 a2=>?_⟩,hr,λn=>Ev.refl n J m w⟩
  match q with
  | 0=>simp at a1 a2;subst a1;subst a2;exact Qy (Qv (.b _))
  | q+1=>simp at a1
 ·rename_i mid since seen ho;split at hdo
  case h_2=>exact hdo.elim
  rename_i es hm;obtain⟨rfl,hsn,hk0,hk1⟩:=hdo;obtain⟨en,B,mb,hen,hg,hbase,hsz,hB,rfl,h1,_,hmid⟩:=Qau hr hy ho;obtain⟨e',he',hg',hmb⟩:=hmid mid rfl;have hobj:=hr.obj mid e' _ he' hm;simp only[RO]at hobj;obtain⟨h0,B',hB',ms,h3,h4,h5⟩:=hobj;obtain⟨B2,hB2,rfl⟩:=hmb h0.symm;obtain rfl:=Option.some.inj (hB'.symm.trans hB2)
  have hent:∀e∈ms.toList,∃i K Vv,es[i]?=some (K,Vv)/\ms[i]?=some e/\e.born=i/\RA J m w K e.key/\RA J m w Vv e.val:=by
   intro e he;obtain⟨i,hi,rfl⟩:=List.getElem_of_mem he;have hi':i<ms.size:=by simpa using hi
   obtain⟨⟨K,Vv⟩,h6⟩:∃p,es[i]?=some p:=⟨_,q9 (by omega)⟩
   obtain⟨e0,h7,h8,h9,h10⟩:=h5 i K Vv h6;rw[Array.getElem?_eq_getElem hi']at h7
   have h11:=Option.some.inj h7;refine⟨i,K,Vv,h6,by rw[Array.getElem?_eq_getElem hi'];simp,?_,?_,?_⟩
   ·simp only[Array.getElem_toList,h11];exact h8
   ·simp only[Array.getElem_toList,h11];exact h9
   ·simp only[Array.getElem_toList,h11];exact h10
  have hold:∀x∈ms.toList,x.born<since:=by
   intro x hx;obtain⟨i,K,Vv,h6,h7,h8,_⟩:=hent x hx;have:=(q8.1 h6).1;omega
  rcases run_next_at (P:=P) w ty B B' since since seen.toArray ms ms.size h1 h3 hold (Nat.le_refl _) with⟨hl,hrun⟩ | ⟨e,he,w1,hw1,hrun⟩
  ·have hall:∀i,i<es.length->i∈seen:=by
    intro i hi;obtain⟨⟨K,Vv⟩,h6⟩:∃p,es[i]?=some p:=⟨_,q9 hi⟩
    obtain⟨e0,h7,h8,_⟩:=h5 i K Vv h6;have hemp:=Array.eq_empty_of_size_eq_zero hl;unfold leftOf at hemp;rw[Array.filter_eq_empty_iff]at hemp
    have:=hemp e0 (Array.mem_of_getElem? h7);simp[h8]at this
    exact this
   refine⟨_,_,_,_,hrun,hk0 hall,⟨#[.bool false],rfl,rfl,λq v c a1 a2=>?_⟩,hr,λn=>Ev.refl n J m w⟩
   match q with
   | 0=>simp at a1 a2;subst a1;subst a2;exact Qy (Qv (.b _))
   | q+1=>simp at a1
  ·unfold leftOf at he;simp only[Array.toList_filter,qu,Bool.not_eq_true']at he;obtain⟨he1,he2⟩:=he;obtain⟨i,K,Vv,h6,h7,h8,h9,h10⟩:=hent e he1;have hns:i∉seen:=by rw[h8]at he2;simpa using he2
   have hheap1:w1.heap=w.heap/\w1.os=w.os/\w1.tape=w.tape/\w1.output=w.output/\w.drawn<=w1.drawn:=by
    rcases hw1 with rfl | rfl
    ·exact⟨rfl,rfl,rfl,rfl,Nat.le_refl _⟩
    ·exact⟨rfl,rfl,rfl,rfl,by show _<=w.drawn+1;omega⟩
   obtain⟨g1,g2,g3,g4,g5⟩:=hheap1;have hlt:B<w.heap.size:=(je.1 h1).1;have hpush:seen.toArray.push e.born=(seen++[i]).toArray:=by rw[h8];simp
   rw[hpush]at hrun
   generalize hW:ChangeMaps.setBlock w1 B (.mapIter (some B') since (seen++[i]).toArray ms.size)=W at hrun;have hWh:W.heap=w.heap.setIfInBounds B (.mapIter (some B') since (seen++[i]).toArray ms.size):=by rw[<- hW];simp[ChangeMaps.setBlock,g1]
   have hother:∀k,k<w.heap.size->en.blk≠some k->W.heap[k]?=w.heap[k]?:=by
    intro k _ hk;have:B≠k:=λh=>hk (by rw[hB,h])
    rw[hWh];simp[Array.getElem?_setIfInBounds,this]
   have hset:=Zb hen;have hJ:∀k,J k->W.heap[k]?=w.heap[k]?:=λk hk=>hother k (hr.jlt k hk) λhk'=>(hr.dis id en k hen hk').1 hk
   have hRS:RS J (h.set id (.it (some mid) since (seen++[i]))) m W:=by
    have:=hr.upd (w':=W) en (.it (some mid) since (seen++[i])) hen (Nat.le_refl _) (λ_=>rfl) (λB' hB'=>⟨.inl hB',by rw[hB]at hB';obtain rfl:=Option.some.inj hB';rw[hWh];simpa using hlt⟩) hother (by rw[hWh];simp) (by
     rw[hset];simp only[RO];refine⟨hg,hbase,hsz,B,hB,some B',?_,e',he',hg',λ_=>⟨B',hB2,rfl⟩⟩;rw[hWh,h4,hsn];simp[Array.getElem?_setIfInBounds,hlt])
    rw[hset]at this
    exact this
   have hEv:∀n,Ev n J m w J m W:=by
    intro n;have:=Ev.upd (n:=n) (J:=J) (w:=w) (w':=W) en hen (Nat.le_refl _) (λ_=>rfl) (λB' hB'=>.inl hB') hother (by rw[hWh];simp) (by rw[<- hW];exact g2) (by rw[<- hW];exact g3) (by rw[<- hW];exact g4) (by rw[<- hW];exact g5);rw[hset]at this
    exact this
   refine⟨_,_,_,_,hrun,hk1 i (K,Vv) h6 hns,⟨#[.bool true,e.key,e.val],rfl,rfl,λq v c a1 a2=>?_⟩,hRS,hEv⟩
   match q with
   | 0=>simp at a1 a2;subst a1;subst a2;exact Qy (Qv (.b _))
   | 1=>simp at a1 a2;subst a1;subst a2;exact RA.mono (λ_ h=>h) hJ (Ml.refl m) h9
   | 2=>simp at a1 a2;subst a1;subst a2;exact RA.mono (λ_ h=>h) hJ (Ml.refl m) h10
   | q+3=>simp at a1
end
end Go.Abs
