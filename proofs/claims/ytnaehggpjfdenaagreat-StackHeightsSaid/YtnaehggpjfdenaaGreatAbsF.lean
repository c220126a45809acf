/- Part of the library on which the proof stands: an abstract machine, its values and its soundness against the model; or what functions of the program do to such values. -/
import Derived.Test.YtnaehggpjfdenaaGreatAbsC
import Derived.Laws.BytesArg
set_option linter.unusedVariables false
set_option linter.unusedSimpArgs false
namespace Go.Abs
open Go.RowKit
section
variable {P:Program}
theorem Qm {T:TypeId} {n:Nat} (h:(P.info? T).map (·.size)=some n) (w:World):(sizeOf T).run P w=.ok n w:=by
 cases hi:P.info? T with
 | none=>simp[hi]at h
 | some i=>simp[hi]at h;simp[sizeOf,typeInfo,hi,h]
theorem Zk (g o:Nat) (t:TypeId) (fz:Nat × Nat):∀(vs:List Value) (i:Nat) (cur:Array Value) (w:World),w.heap[g]?=some (.cells cur t fz)->o+i+vs.length<=cur.size->(∀v∈vs,v.oneCell'=true) ->
  (∀k,k<cur.size->¬ (fz.1<=k/\k<fz.2)) ->
  (storeCells ⟨g,o,none⟩ vs i).run P w=.ok () (w.setRow g (cur.toList.take (o+i)++vs++cur.toList.drop (o+i+vs.length)).toArray)
 | [],i,cur,w,hg,_,_,_=>by
   simp only[storeCells,List.append_nil,List.length_nil,Nat.add_zero,List.take_append_drop,Array.toArray_toList]
   rw[setRow_self w g cur t fz hg]
   rfl
 | v::rest,i,cur,w,hg,hl,h1,hz=>by
   have hi:o+i<cur.size:=by simp at hl;omega
   have hadd:(⟨g,o,none⟩:Addr).add i=⟨g,o+i,none⟩:=by unfold Addr.add;split<;>simp_all
   have hcell:w.cell? ⟨g,o+i,none⟩=some cur[o+i]:=by simp[World.cell?,hg,hi]
   have hfro:w.frozen? ⟨g,o+i,none⟩=false:=by
    obtain⟨lo,hi'⟩:=fz
    have:=hz (o+i) hi
    simp only[World.frozen?,hg]
    simp at this ⊢
    exact this
   have hst:(store ((⟨g,o,none⟩:Addr).add i) v).run P w=.ok () (w.setRow g (cur.setIfInBounds (o+i) v)):=by
    rw[hadd,run_store P w _ v _ (h1 v (by simp)),hcell]
    simp[hfro,setCell_eq_setRow w g (o+i) cur t fz v hg]
   have ih:=Zk g o t fz rest (i+1) (cur.setIfInBounds (o+i) v) (w.setRow g (cur.setIfInBounds (o+i) v)) (setRow_heap w g cur _ t _ hg) (by simp at hl ⊢;omega) (λx hx=>h1 x (by simp[hx])) (by simpa using hz)
   simp only[storeCells,Sem.run_bind,hst,Result.andThen_ok,ih,setRow_setRow]
   congr 3
   have e:=list_seg_step cur.toList (o+i) v rest (by simp at hl ⊢;omega)
   simpa[Array.toList_setIfInBounds,Nat.add_assoc]using e
def Q0n (P:Program) (T:TypeId):Option (Option Nat) :=
 match P.underlying T,P.info? T with
 | some (.struct _),some i=>some (some i.size)
 | some (.array _ _),some i=>some (some i.size)
 | some _,some _=>some none
 | _,_=>none
theorem Zs {T:TypeId} {n:Nat} (h:Q0n P T=some (some n)) (w:World):(isAgg T).run P w=.ok true w/\(sizeOf T).run P w=.ok n w:=by
 unfold Q0n at h
 split at h<;>simp at h
 ·rename_i hu hi
  exact⟨by simp[isAgg,run_underlying hu],Qm (by rw[hi];simp[h]) w⟩
 ·rename_i hu hi
  exact⟨by simp[isAgg,run_underlying hu],Qm (by rw[hi];simp[h]) w⟩
theorem J8 {T:TypeId} (h:Q0n P T=some none) (w:World):(isAgg T).run P w=.ok false w:=by
 unfold Q0n at h
 split at h<;>simp at h
 rename_i d i h1 h2 hu hi
 cases d<;>first | (exfalso;exact h1 _ rfl) | (exfalso;exact h2 _ _ rfl) | simp[isAgg,run_underlying hu]
section
variable {J:Nat->Prop} {m:List Ent} {w:World} {h:List O}
theorem Addr.add_block (a:Addr) (n:Nat):(a.add n).block=a.block:=by unfold Addr.add;split<;>rfl
theorem Q4a (hr:RS J h m w) {X:V} {x:Value} (hx:RV J m w X x) {cs:List V} (hc:Yf h X=some cs) :
  ∃a,x=.pointer (some a)/\∃vs,Pw (RC J m w) cs vs/\∀j v,vs[j]?=some v->w.cell? (a.add j)=some v:=by
 unfold Yf at hc
 split at hc
 ·rename_i cells
  simp at hc;subst hc
  obtain⟨a,rfl,hj,hcell⟩:=hx
  refine⟨a,rfl,(List.range cells.length).map (λj=>(w.cell? (a.add j)).getD undef),⟨by simp,λi v c hv hcc=>?_⟩,λj v hv=>?_⟩
  ·obtain⟨cv,h1,h2⟩:=hcell i v hv
   have hi:=(q8.1 hv).1
   simp[hi,h1]at hcc
   subst hcc
   exact Qu h2
  ·have hi:=(q8.1 hv).1
   simp at hi
   obtain⟨cv,h1,h2⟩:=hcell j cells[j] (q9 hi)
   simp[hi,h1]at hv
   rw[h1,hv]
 ·rename_i id g e j
  split at hc
  case h_2=>simp at hc
  rename_i g' sz els ho
  split at hc
  case isFalse=>simp at hc
  rename_i hgg
  subst hgg
  simp only[qr]at hc
  obtain⟨cs0,he,hc⟩:=hc
  split at hc
  case isFalse=>simp at hc
  rename_i hjl
  obtain rfl:=Option.some.inj hc
  obtain⟨_,en,hen,_,hp⟩:=hx
  have hobj:=hr.obj id en _ hen ho
  simp only[RO]at hobj
  obtain⟨h1,h2,h3,h4⟩:=hobj
  obtain⟨B,hB,rfl⟩:=hp h1.symm
  rw[hB]at h4
  obtain⟨h5,h5',c,ty,fz,h6,h7,h8,h9⟩:=h4
  have hlen:=h3 e cs0 he
  subst h2
  have hel:=(q8.1 he).1
  have hcs:c.size=(en.base+en.cap)*en.sz:=h7
  have hbase:(en.base+e)*en.sz+en.sz<=(en.base+en.cap)*en.sz:=by
   rw[<- Nat.succ_mul];exact j5 _ (by omega)
  refine⟨⟨B,(en.base+e)*en.sz+j,none⟩,rfl,(c.toList.drop ((en.base+e)*en.sz+j)).take (cs0.length-j),⟨?_,λi v cv hv hcv=>?_⟩,λi v hv=>?_⟩
  ·simp[List.length_drop];omega
  ·rw[jb]at hcv
   split at hcv<;>simp at hcv
   obtain⟨cv',h10,h11⟩:=h9 e cs0 (j+i) v he (by simpa using hv)
   rw[show (en.base+e)*en.sz+j+i=(en.base+e)*en.sz+(j+i) by omega,h10]at hcv
   rw[<- Option.some.inj hcv];exact h11
  ·rw[jb]at hv
   split at hv<;>simp at hv
   rw[Addr.add_lit]
   simp[World.cell?,h6,hv]
 ·simp at hc
theorem Q39 {n:Option Nat} {cs:List V} {r:V} (hp:Xp n cs=some r) {vs:List Value} (hv:Pw (RC J m w) cs vs) :
  match n with
  | none=>∃c,vs[0]?=some c/\RV J m w r c
  | some k=>k<=vs.length/\RV J m w r (.agg (vs.take k).toArray):=by
 cases n with
 | none =>
   simp only[Xp]at hp
   cases cs with
   | nil=>simp at hp
   | cons y ys =>
     simp at hp;subst hp
     obtain⟨c,h1,h2⟩:=hv.get (i:=0) rfl
     exact⟨c,h1,Qe h2⟩
 | some k =>
   simp only[Xp]at hp
   split at hp<;>simp at hp
   subst hp
   exact⟨by rw[<- hv.1];assumption,_,rfl,by simpa using hv.take k⟩
theorem Qg7 {T:TypeId} {n:Option Nat} (hT:Q0n P T=some n) (hr:RS J h m w) {X:V} {x:Value} (hx:RV J m w X x) {r:V} (hs:(Yf h X).bind (Xp n)=some r) :
  Fine J m w h r ((do pure (.value (<- Instr.loadAt T x)):Sem Next).run P w):=by
 simp only[qr]at hs
 obtain⟨cs,hc,hp⟩:=hs
 obtain⟨a,rfl,vs,hv,hcell⟩:=Q4a hr hx hc
 have:=Q39 hp hv
 cases n with
 | none =>
   obtain⟨c,h1,h2⟩:=this
   have h3:=hcell 0 c h1
   rw[Addr.add_zero']at h3
   simp only[Instr.loadAt,Instr.sureAddr,loadVar,Sem.run_bind,Sem.run_pure,Result.andThen_ok,J8 hT,Bool.false_eq_true,if_false,run_load,h3]
   exact Fine.pure hr h2
 | some k =>
   obtain⟨h1,h2⟩:=this
   have hl:=run_loadCells_list (P:=P) w a (vs.take k) (λj v hj=>hcell j v (by rw[jb]at hj;split at hj<;>simp_all))
   have hlen:(vs.take k).length=k:=by simp;omega
   rw[hlen]at hl
   simp only[Instr.loadAt,Instr.sureAddr,loadVar,Sem.run_bind,Sem.run_pure,Result.andThen_ok,(Zs hT w).1,if_true,(Zs hT w).2,hl]
   exact Fine.pure hr h2
theorem Wk {X:V} {x:Value} (hx:RV J m w X x) (hok:X.okA=true):Pw (RC J m w) X.cells x.cells.toList:=by
 cases X<;>simp[V.okA]at hok<;>simp only[V.cells]
 case a cs =>
  obtain⟨arr,rfl,hp⟩:=hx
  exact hp
 all_goals
  have h1:=Qpm (J:=J) (m:=m) (w:=w) rfl (by simp) (Qpo (by intro vs h;cases h) hx)
  have h2:=RC.one h1
  have h3:x.cells=#[x]:=by cases x<;>first | rfl | simp[Value.oneCell']at h2
  rw[h3]
  exact Pw.cons h1 Pw.nil
theorem Qd0 {cs ys:List V} {j k:Nat} (hj:j+ys.length<=cs.length):(Xm cs j ys)[k]?=if k<j then cs[k]? else if k<j+ys.length then ys[k-j]? else cs[k]?:=by
 unfold Xm
 have hl:(cs.take j).length=j:=by simp;omega
 split
 ·rename_i hk
  rw[qz,qd (by omega),jb,if_pos hk]
 ·rename_i hk
  split
  ·rename_i hk2
   rw[qd (by simp;omega),qf (by omega),hl]
  ·rename_i hk2
   rw[qf (by simp;omega)]
   simp only[j3,hl,jc]
   congr 1
   omega
theorem Qcz {cs ys:List V} {j:Nat} (hj:j+ys.length<=cs.length):(Xm cs j ys).length=cs.length:=by
 simp[Xm];omega
theorem Zz {cs ys:List Value} {j k:Nat} (hj:j+ys.length<=cs.length):(cs.take j++ys++cs.drop (j+ys.length))[k]?=if k<j then cs[k]? else if k<j+ys.length then ys[k-j]? else cs[k]?:=by
 have hl:(cs.take j).length=j:=by simp;omega
 split
 ·rename_i hk
  rw[qz,qd (by omega),jb,if_pos hk]
 ·rename_i hk
  split
  ·rename_i hk2
   rw[qd (by simp;omega),qf (by omega),hl]
  ·rename_i hk2
   rw[qf (by simp;omega)]
   simp only[j3,hl,jc]
   congr 1
   omega
theorem Qam {a b c d s:Nat} (hb:b<s) (hd:d<s) (h:a*s+b=c*s+d):a=c/\b=d:=by
 rcases Nat.lt_trichotomy a c with hlt | heq | hgt
 ·exfalso
  have:=j5 s (show a+1<=c from hlt)
  rw[Nat.add_mul,Nat.one_mul]at this
  omega
 ·subst heq;exact⟨rfl,by omega⟩
 ·exfalso
  have:=j5 s (show c+1<=a from hgt)
  rw[Nat.add_mul,Nat.one_mul]at this
  omega
theorem fine_st {T:TypeId} {n:Nat} (hT:(P.info? T).map (·.size)=some n) (hr:RS J h m w) {id g e j:Nat} {x:Value} (hx:RV J m w (.p id g e j) x) {Y:V} {y:Value} (hy:RV J m w Y y)
  {sz:Nat} {els:List (List V)} (ho:h[id]?=some (.arr g sz els)) {cs:List V} (he:els[e]?=some cs) (hn:Y.cells.length=n) (hj:j+n<=cs.length) (hok:Y.okA=true) :
  Fine J m w (h.set id (.arr g sz (els.set e (Xm cs j Y.cells)))) .any ((do Instr.storeAt T x y;pure .skip:Sem Next).run P w):=by
 obtain⟨_,en,hen,_,hp⟩:=hx
 have hobj:=hr.obj id en _ hen ho
 simp only[RO]at hobj
 obtain⟨h1,h2,h3,h4⟩:=hobj
 obtain⟨B,hB,rfl⟩:=hp h1.symm
 rw[hB]at h4
 obtain⟨h5,h5',c,ty,fz,h6,h7,h8,h9⟩:=h4
 have hlen:=h3 e cs he
 subst h2
 have hel:=(q8.1 he).1
 have hbase:(en.base+e)*en.sz+en.sz<=(en.base+en.cap)*en.sz:=by
  rw[<- Nat.succ_mul];exact j5 _ (by omega)
 have hcy:=Wk hy hok
 have hyl:y.cells.toList.length=n:=by rw[<- hcy.1,hn]
 have hst:=Zk (P:=P) B ((en.base+e)*en.sz+j) ty fz y.cells.toList 0 c w h6 (by rw[hyl];omega)
  (λv hv=>by
   obtain⟨i,hi⟩:=qq hv
   obtain⟨hlt,_⟩:=q8.1 hi
   exact RC.one (hcy.2 i _ v (q9 (by rw[hcy.1];exact hlt)) hi)) h8
 simp only[Nat.add_zero]at hst
 have hrun:(do Instr.storeAt T (.pointer (some ⟨B,(en.base+e)*en.sz+j,none⟩)) y;pure .skip:Sem Next).run P w=.ok .skip (w.setRow B (c.toList.take ((en.base+e)*en.sz+j)++y.cells.toList++c.toList.drop ((en.base+e)*en.sz+j+y.cells.toList.length)).toArray):=by
  have hsz:y.cells.size=n:=by simpa using hyl
  simp only[Instr.storeAt,Instr.sureAddr,storeVar,Sem.run_bind,Sem.run_pure,Result.andThen_ok,Qm hT,hsz,ne_eq,not_true,if_false,hst]
 rw[hrun]
 have hwB:B<w.heap.size:=(ja.1 h6).1
 have hml:Ml m (m.set id en):=Ml.set hen (Nat.le_refl _) (λ_=>rfl)
 have hset:m.set id en=m:=by
  apply qx
  intro i
  by_cases hi:id=i
  ·subst hi;rw[qm (q8.1 hen).1,hen]
  ·rw[qt hi]
 have hother:∀k,k<w.heap.size->en.blk≠some k->(w.setRow B (c.toList.take ((en.base+e)*en.sz+j)++y.cells.toList++c.toList.drop ((en.base+e)*en.sz+j+y.cells.toList.length)).toArray).heap[k]?=w.heap[k]?:=λk _ hk=>setRow_other w B k _ (λhkb=>hk (by rw[hB,hkb]))
 have hJ:∀k,J k->(w.setRow B (c.toList.take ((en.base+e)*en.sz+j)++y.cells.toList++c.toList.drop ((en.base+e)*en.sz+j+y.cells.toList.length)).toArray).heap[k]?=w.heap[k]?:=λk hk=>hother k (hr.jlt k hk) (λhkb=>(hr.dis id en k hen hkb).1 hk)
 have hs:w.heap.size<=(w.setRow B (c.toList.take ((en.base+e)*en.sz+j)++y.cells.toList++c.toList.drop ((en.base+e)*en.sz+j+y.cells.toList.length)).toArray).heap.size:=by simp[World.setRow]
 refine⟨undef,_,J,m,.inr ⟨rfl,rfl⟩,trivial,?_,λn=>?_,Ml.refl m⟩
 ·have:=RS.upd hr (w':=w.setRow B (c.toList.take ((en.base+e)*en.sz+j)++y.cells.toList++c.toList.drop ((en.base+e)*en.sz+j+y.cells.toList.length)).toArray) en (.arr g en.sz (els.set e (Xm cs j Y.cells))) hen (Nat.le_refl _) (λ_=>rfl) (λB' hB'=>⟨.inl hB',by have:=(hr.dis id en B' hen hB').2;omega⟩) hother hs ?_
  ·rw[hset]at this;exact this
  ·rw[hset]
   simp only[RO]
   refine⟨h1,trivial,λi el hi=>?_,?_⟩
   ·by_cases hie:e=i
    ·subst hie
     rw[qm hel]at hi
     obtain rfl:=Option.some.inj hi
     rw[Qcz (by omega),hlen]
    ·rw[qt hie]at hi
     exact h3 i el hi
   ·rw[hB]
    refine⟨by simpa using h5,h5',_,ty,fz,setRow_heap w B c _ ty fz h6,?_,?_,λi el k x hi hk=>?_⟩
    ·simp[hyl];omega
    ·intro k hk
     apply h8
     simp[hyl]at hk;omega
    ·have hsp:=λk=>Zz (cs:=c.toList) (ys:=y.cells.toList) (j:=(en.base+e)*en.sz+j) (k:=k) (by rw[hyl];simp;omega)
     simp only[Array.getElem?_toList]at hsp
     first | rw[List.getElem?_toArray,hsp] | rw[hsp]
     by_cases hie:e=i
     ·subst hie
      rw[qm hel]at hi
      obtain rfl:=Option.some.inj hi
      rw[Qd0 (by omega)]at hk
      split at hk
      ·rename_i hkj
       rw[if_pos (by omega)]
       obtain⟨cv,h10,h11⟩:=h9 e cs k x he hk
       exact⟨cv,h10,RC.mono (λ_ h=>h) hJ (Ml.refl m) h11⟩
      ·rename_i hkj
       split at hk
       ·rename_i hk2
        rw[if_neg (by omega),if_pos (by rw[hyl];omega)]
        obtain⟨cv,h10,h11⟩:=hcy.get hk
        refine⟨cv,?_,RC.mono (λ_ h=>h) hJ (Ml.refl m) h11⟩
        rw[show (en.base+e)*en.sz+k-((en.base+e)*en.sz+j)=k-j by omega]
        simpa using h10
       ·rename_i hk2
        rw[if_neg (by omega),if_neg (by rw[hyl];omega)]
        obtain⟨cv,h10,h11⟩:=h9 e cs k x he hk
        exact⟨cv,h10,RC.mono (λ_ h=>h) hJ (Ml.refl m) h11⟩
     ·rw[qt hie]at hi
      have hkl:k<en.sz:=by
       have:=(q8.1 hk).1
       have:=h3 i el hi
       omega
      obtain⟨cv,h10,h11⟩:=h9 i el k x hi hk
      refine⟨cv,?_,RC.mono (λ_ h=>h) hJ (Ml.refl m) h11⟩
      split
      ·exact h10
      ·rename_i hq1
       split
       ·rename_i hq2
        exfalso
        rw[hyl]at hq2
        have hq3:(en.base+i)*en.sz+k=(en.base+e)*en.sz+((en.base+i)*en.sz+k-(en.base+e)*en.sz):=by omega
        have:=Qam hkl (show (en.base+i)*en.sz+k-(en.base+e)*en.sz<en.sz by omega) hq3
        omega
       ·exact h10
 ·have:=Ev.upd (n:=n) (J:=J) (w:=w) (w':=w.setRow B (c.toList.take ((en.base+e)*en.sz+j)++y.cells.toList++c.toList.drop ((en.base+e)*en.sz+j+y.cells.toList.length)).toArray) en hen (Nat.le_refl _) (λ_=>rfl) (λB' hB'=>.inl hB') hother hs rfl rfl rfl (Nat.le_refl _)
  rw[hset]at this;exact this
theorem Wf (hr:RS J h m w) {sz:Nat} {els:List (List V)} (hsz:∀(i:Nat) (el:List V),els[i]?=some el->el.length=sz) {w':World} {c:Array Value} {ty:TypeId} {fz:Nat × Nat} {cap:Nat}
  (h1:w'.os=w.os) (h2:w'.tape=w.tape) (h3:w'.output=w.output) (hdr:w.drawn<=w'.drawn) (hw:∀k,k<w.heap.size->w'.heap[k]?=w.heap[k]?) (hs:w.heap.size<w'.heap.size)
  (hnew:w'.heap[w.heap.size]?=some (.cells c ty fz)) (hcs:c.size=cap*sz) (hcap:els.length<=cap) (hml:cap<=maxLen) (hfz:∀k,k<c.size->¬ (fz.1<=k/\k<fz.2))
  (hcell:∀(i:Nat) (el:List V) (j:Nat) (x:V),els[i]?=some el->el[j]?=some x->∃cv,c[i*sz+j]?=some cv/\RC J m w x cv) :
  RS J (h++[.arr 1 sz els]) (m++[⟨1,sz,some w.heap.size,0,cap⟩]) w'/\(∀n,Ev n J m w J (m++[⟨1,sz,some w.heap.size,0,cap⟩]) w')/\Ml m (m++[⟨1,sz,some w.heap.size,0,cap⟩]):=by
 refine⟨RS.push hr _ _ (λB hB=>?_) hw (by omega) ?_,λn=>Ev.push _ (λB hB=>?_) hw (by omega) h1 h2 h3 hdr,Ml.app _ _⟩
 ·simp at hB;omega
 ·simp only[RO]
  refine⟨trivial,trivial,hsz,hcap,by omega,c,ty,fz,hnew,by simpa using hcs,hfz,λi el j x hi hj=>?_⟩
  obtain⟨cv,h4,h5⟩:=hcell i el j x hi hj
  exact⟨cv,by simpa using h4,RC.mono (λ_ h=>h) (λk hk=>hw k (hr.jlt k hk)) (Ml.app _ _) h5⟩
 ·simp at hB;omega
theorem Y3 (m:List Ent) (e:Ent):(m++[e])[m.length]?=some e:=by simp
theorem Wh (hr:RS J h m w) {cs:List V} {vs:Array Value} (hv:Pw (RC J m w) cs vs.toList) (T:TypeId) {x:Value} (hx:x.cells=vs) :
  Fine J m w (h++[.arr 1 cs.length [cs]]) (.p h.length 1 0 0) ((do pure (.value (<- Instr.box T x)):Sem Next).run P w):=by
 have hlen:vs.size=cs.length:=by simpa using hv.1.symm
 have hrun:(do pure (.value (<- Instr.box T x)):Sem Next).run P w=.ok (.value (.pointer (some ⟨w.heap.size,0,none⟩))) (w.alloc (.cells vs T)):=by
  simp[Instr.box,newVar,newRow,hx]
 rw[hrun]
 have:=Wf hr (sz:=cs.length) (els:=[cs]) (w':=w.alloc (.cells vs T)) (c:=vs) (ty:=T) (fz:=(0,0)) (cap:=1) (by intro i el hi;cases i<;>simp at hi;subst hi;rfl)
  rfl rfl rfl (by simp) (λk hk=>heap_alloc_old w _ hk) (by simp) (heap_alloc_new w _) (by omega) (by simp) (by simp[maxLen]) (by intro k _;simp)
  (by intro i el j x hi hj
      cases i<;>simp at hi
      subst hi
      obtain⟨cv,h1,h2⟩:=hv.get hj
      exact⟨cv,by simpa using h1,h2⟩)
 refine⟨_,_,J,_,.inl rfl,⟨rfl,?_⟩,this.1,this.2.1,this.2.2⟩
 refine⟨⟨1,cs.length,some w.heap.size,0,1⟩,by rw[<- hr.len];exact Y3 _ _,by simp,λ_=>⟨w.heap.size,rfl,by simp⟩⟩
theorem Qoa (hr:RS J h m w) {X:V} {x:Value} (hx:RV J m w X x) (hok:X.okA=true) (T:TypeId) :
  Fine J m w (h++[.arr 1 X.cells.length [X.cells]]) (.p h.length 1 0 0) ((do pure (.value (<- Instr.box T x)):Sem Next).run P w) :=
 Wh hr (Wk hx hok) T rfl
def zc (P:Program) (T:TypeId):Option (List V):=(P.info? T).bind λi=>i.zero.bind λz=>z.cells.toList.mapM cvL
theorem Qk8 {T:TypeId} {z:List V} (hz:zc P T=some z):∃v,(∀w,(zeroValue T).run P w=.ok v w)/\∀(J:Nat->Prop) m w,Pw (RC J m w) z v.cells.toList:=by
 unfold zc at hz
 simp only[qr]at hz
 obtain⟨i,hi,v,hv,hm⟩:=hz
 exact⟨v,λw=>by simp[zeroValue,typeInfo,hi,hv],λJ m w=>Ip hm⟩
theorem Qed (hr:RS J h m w) {T:TypeId} {z:List V} (hz:zc P T=some z) :
  Fine J m w (h++[.arr 1 z.length [z]]) (.p h.length 1 0 0) ((do pure (.value (<- Instr.alloc T true (.tuple #[]))):Sem Next).run P w):=by
 obtain⟨v,hv,hp⟩:=Qk8 hz
 have:=Wh (P:=P) hr (hp J m w) T rfl
 have e:(do pure (.value (<- Instr.alloc T true (.tuple #[]))):Sem Next).run P w=(do pure (.value (<- Instr.box T v)):Sem Next).run P w:=by
  simp[Instr.alloc,Instr.box,hv w,newVar,newRow]
 rw[e];exact this
end
end
end Go.Abs
namespace Go.Abs
open Go.RowKit
section
variable {P:Program} {J:Nat->Prop} {m:List Ent} {w:World} {h:List O}
theorem RC.drop_ip {cells:List V} {x:Value} {off:Nat} (hx:RL J m w (.ip cells) x):∃a,x=.pointer (some a)/\RL J m w (.ip (cells.drop off)) (.pointer (some (a.add off))):=by
 obtain⟨a,rfl,hj,hc⟩:=hx
 refine⟨a,rfl,a.add off,rfl,by rw[Addr.add_block];exact hj,λj x hx=>?_⟩
 rw[jc]at hx
 obtain⟨c,h1,h2⟩:=hc _ x hx
 exact⟨c,by rw[Addr.add_add];exact h1,h2⟩
theorem Qln {id g e j:Nat} {x:Value} (off:Nat) (hx:RL J m w (.p id g e j) x) (hst:∃en,m[id]?=some en/\en.gen=g):∃a,x=.pointer (some a)/\RL J m w (.p id g e (j+off)) (.pointer (some (a.add off))):=by
 obtain⟨en',hen',hg'⟩:=hst
 obtain⟨_,en,hen,hg,hp⟩:=hx
 obtain rfl:=Option.some.inj (hen.symm.trans hen')
 obtain⟨B,hB,rfl⟩:=hp hg'.symm
 refine⟨_,rfl,rfl,en,hen,hg,λ_=>⟨B,hB,?_⟩⟩
 rw[Addr.add_lit]
 simp[Nat.add_assoc]
theorem Q0w {S:TypeId} {fs:Array Field} {f:Field} {i n:Nat} (hS:P.underlying S=some (.struct fs)) (hf:fs[i]?=some f) (hn:(P.info? f.type).map (·.size)=some n) (hpos:0<n) (a:Addr) :
  (do pure (.value (<- Instr.fieldAt S (.pointer (some a)) i)):Sem Next).run P w=.ok (.value (.pointer (some (a.add f.offset)))) w:=by
 have h0:¬ n=0:=by omega
 simp[Instr.fieldAt,run_underlying hS,hf,Instr.sureAddr,fieldPlace,Qm hn,h0]
theorem Qiy {S:TypeId} {fs:Array Field} {f:Field} {i n:Nat} (hS:P.underlying S=some (.struct fs)) (hf:fs[i]?=some f) (hn:(P.info? f.type).map (·.size)=some n) (hpos:0<n)
  (hr:RS J h m w) {id g e j:Nat} {x:Value} (hx:RV J m w (.p id g e j) x) {sz:Nat} {els:List (List V)} (ho:h[id]?=some (.arr g sz els)) :
  Fine J m w h (.p id g e (j+f.offset)) ((do pure (.value (<- Instr.fieldAt S x i)):Sem Next).run P w):=by
 have hlt:id<m.length:=by rw[hr.len];exact(q8.1 ho).1
 have hobj:=hr.obj id m[id] _ (q9 hlt) ho
 simp only[RO]at hobj
 obtain⟨a,rfl,h1⟩:=Qln f.offset (show RL J m w (.p id g e j) x from hx) ⟨m[id],q9 hlt,hobj.1⟩
 rw[Q0w hS hf hn hpos a]
 exact Fine.pure hr (Qe h1)
theorem Qec {S:TypeId} {fs:Array Field} {f:Field} {i n:Nat} (hS:P.underlying S=some (.struct fs)) (hf:fs[i]?=some f) (hn:(P.info? f.type).map (·.size)=some n) (hpos:0<n)
  (hr:RS J h m w) {cs:List V} {x:Value} (hx:RV J m w (.ip cs) x) :
  Fine J m w h (.ip (cs.drop f.offset)) ((do pure (.value (<- Instr.fieldAt S x i)):Sem Next).run P w):=by
 obtain⟨a,rfl,h1⟩:=RC.drop_ip (m:=m) (off:=f.offset) hx
 rw[Q0w hS hf hn hpos a]
 exact Fine.pure hr (Qe h1)
theorem Qfr {T:TypeId} {n:Option Nat} (hT:Q0n P T=some n) {cs:List V} {arr:Array Value} (hp:Pw (RC J m w) cs arr.toList) {off:Nat} (ho:off<=cs.length) {r:V} (hs:Xp n (cs.drop off)=some r) :
  ∃v,(part T arr off).run P w=.ok v w/\RV J m w r v:=by
 have:=Q39 hs (hp.drop off)
 cases n with
 | none =>
   obtain⟨c,h1,h2⟩:=this
   simp at h1
   refine⟨c,?_,h2⟩
   simp[part,J8 hT,h1]
 | some k =>
   obtain⟨h1,h2⟩:=this
   refine⟨_,?_,h2⟩
   simp[part,(Zs hT w).1,(Zs hT w).2,Array.toList_extract]
   apply Array.ext'
   simp[Array.toList_extract,List.extract_eq_take_drop]
theorem Qo2 {S:TypeId} {fs:Array Field} {f:Field} {i:Nat} {n:Option Nat} (hS:P.underlying S=some (.struct fs)) (hf:fs[i]?=some f) (hT:Q0n P f.type=some n)
  (hr:RS J h m w) {cs:List V} {x:Value} (hx:RV J m w (.a cs) x) {r:V} (ho:f.offset<=cs.length) (hs:Xp n (cs.drop f.offset)=some r) :
  Fine J m w h r ((do pure (.value (<- Instr.field S x i)):Sem Next).run P w):=by
 obtain⟨arr,rfl,hp⟩:=hx
 obtain⟨v,h1,h2⟩:=Qfr hT hp ho hs
 simp only[Instr.field,Sem.run_bind,run_underlying hS,Result.andThen_ok,hf,asAgg,Sem.run_pure,h1]
 exact Fine.pure hr h2
theorem Q0b {X:V} {x:Value} {n:Int} (hx:RV J m w X x) (hi:idx X=some n):∃k,x=.int k n:=by
 cases X<;>simp[idx]at hi
 subst hi
 rename_i k n
 have:RD J w (.i k n) x:=hx
 cases this
 exact⟨k,rfl⟩
theorem J9 {T E:TypeId} {sz:Nat} (hT:P.underlying T=some (.slice E)) (hE:(P.info? E).map (·.size)=some sz) (a:Addr) (len cap:Nat) (k:IntKind) (n:Int) (h0:0<=n) (h1:n.toNat<len) :
  (do pure (.value (<- Instr.indexAt T (.slice (some a) len cap) (.int k n))):Sem Next).run P w=.ok (.value (.pointer (some (a.add (n.toNat*sz))))) w:=by
 have h2:n<len:=by omega
 simp[Instr.indexAt,asIntOf,run_underlying hT,Qm hE,h0,h2]
theorem Qix {T E:TypeId} {sz:Nat} (hT:P.underlying T=some (.slice E)) (hE:(P.info? E).map (·.size)=some sz) (hr:RS J h m w) {els:List (List V)} {x:Value} (hx:RV J m w (.l sz els) x)
  {I:V} {i:Value} (hi:RV J m w I i) {n:Int} (hn:idx I=some n) (h0:0<=n) {el:List V} (hel:els[n.toNat]?=some el) :
  Fine J m w h (.ip el) ((do pure (.value (<- Instr.indexAt T x i)):Sem Next).run P w):=by
 obtain⟨k,rfl⟩:=Q0b hi hn
 have hlt:=(q8.1 hel).1
 have hx':RD J w (.l sz els) x:=hx
 cases hx' with
 | l0=>simp at hlt
 | l1=>simp at hlt
 | l _ _ a cap cs hj hc hsz hcell hrd =>
   rw[J9 hT hE a _ cap k n h0 hlt]
   refine Fine.pure hr ⟨_,rfl,by rw[Addr.add_block];exact hj,λj x hx=>?_⟩
   have hjl:=(q8.1 hx).1
   rw[hsz _ _ hel]at hjl
   exact⟨_,by rw[Addr.add_add];exact hcell _ _ hlt hjl,hrd _ _ _ _ hel hx⟩
theorem Xo (hr:RS J h m w) {id g off len:Nat} {x:Value} (hx:RV J m w (.own id g off len) x) {sz:Nat} {els:List (List V)} (ho:h[id]?=some (.arr g sz els)) :
  ∃en,m[id]?=some en/\en.gen=g/\en.sz=sz/\en.sl off len x/\RO J m w en (.arr g sz els):=by
 obtain⟨_,en,hen,_,hp⟩:=hx
 have hobj:=hr.obj id en _ hen ho
 have hobj':=hobj
 simp only[RO]at hobj
 exact⟨en,hen,hobj.1,hobj.2.1,hp hobj.1.symm,hobj'⟩
theorem Qbo {T E:TypeId} {sz:Nat} (hT:P.underlying T=some (.slice E)) (hE:(P.info? E).map (·.size)=some sz) (hr:RS J h m w) {id g off len:Nat} {x:Value} (hx:RV J m w (.own id g off len) x)
  {els:List (List V)} (ho:h[id]?=some (.arr g sz els)) {I:V} {i:Value} (hi:RV J m w I i) {n:Int} (hn:idx I=some n) (h0:0<=n) (hlt:n.toNat<len) :
  Fine J m w h (.p id g (off+n.toNat) 0) ((do pure (.value (<- Instr.indexAt T x i)):Sem Next).run P w):=by
 obtain⟨k,rfl⟩:=Q0b hi hn
 obtain⟨en,hen,hg,hsz,hsl,_⟩:=Xo hr hx ho
 unfold Ent.sl at hsl
 cases hb:en.blk with
 | none=>rw[hb]at hsl;omega
 | some B =>
   rw[hb]at hsl
   obtain⟨o,c,rfl,h1,h2⟩:=hsl
   rw[J9 hT hE _ _ _ k n h0 hlt]
   have hg1:1<=g:=by obtain⟨_,_,_,h3,_⟩:=hx;exact h3.1
   refine Fine.pure hr ⟨rfl,en,hen,by omega,λ_=>⟨B,hb,?_⟩⟩
   rw[Addr.add_lit,h2 (by omega),<- hsz,<- Nat.add_mul]
   simp[Nat.add_assoc]
theorem Ja {T E:TypeId} {sz len:Nat} (hT:P.underlying T=some (.array len E)) (hE:(P.info? E).map (·.size)=some sz) (a:Addr) (k:IntKind) (n:Int) (h0:0<=n) (h1:n.toNat<len) :
  (do pure (.value (<- Instr.indexAt T (.pointer (some a)) (.int k n))):Sem Next).run P w=.ok (.value (.pointer (some (a.add (n.toNat*sz))))) w:=by
 have h2:n<len:=by omega
 simp[Instr.indexAt,asIntOf,run_underlying hT,Instr.sureAddr,Qm hE,h0,h2]
theorem Qeb {T E:TypeId} {sz len:Nat} (hT:P.underlying T=some (.array len E)) (hE:(P.info? E).map (·.size)=some sz) (hr:RS J h m w) {id g e j:Nat} {x:Value} (hx:RV J m w (.p id g e j) x)
  {sz':Nat} {els:List (List V)} (ho:h[id]?=some (.arr g sz' els)) {I:V} {i:Value} (hi:RV J m w I i) {n:Int} (hn:idx I=some n) (h0:0<=n) (hlt:n.toNat<len) :
  Fine J m w h (.p id g e (j+n.toNat*sz)) ((do pure (.value (<- Instr.indexAt T x i)):Sem Next).run P w):=by
 obtain⟨k,rfl⟩:=Q0b hi hn
 have hlm:id<m.length:=by rw[hr.len];exact(q8.1 ho).1
 have hobj:=hr.obj id m[id] _ (q9 hlm) ho
 simp only[RO]at hobj
 obtain⟨a,rfl,h1⟩:=Qln (n.toNat*sz) (show RL J m w (.p id g e j) x from hx) ⟨m[id],q9 hlm,hobj.1⟩
 rw[Ja hT hE a k n h0 hlt]
 exact Fine.pure hr (Qe h1)
theorem Qbn {T E:TypeId} {sz len:Nat} (hT:P.underlying T=some (.array len E)) (hE:(P.info? E).map (·.size)=some sz) (hr:RS J h m w) {cs:List V} {x:Value} (hx:RV J m w (.ip cs) x)
  {I:V} {i:Value} (hi:RV J m w I i) {n:Int} (hn:idx I=some n) (h0:0<=n) (hlt:n.toNat<len) :
  Fine J m w h (.ip (cs.drop (n.toNat*sz))) ((do pure (.value (<- Instr.indexAt T x i)):Sem Next).run P w):=by
 obtain⟨k,rfl⟩:=Q0b hi hn
 obtain⟨a,rfl,h1⟩:=RC.drop_ip (m:=m) (off:=n.toNat*sz) hx
 rw[Ja hT hE a k n h0 hlt]
 exact Fine.pure hr (Qe h1)
theorem fine_ix {T E:TypeId} {sz len:Nat} {nn:Option Nat} (hT:P.underlying T=some (.array len E)) (hE:(P.info? E).map (·.size)=some sz) (hA:Q0n P E=some nn) (hr:RS J h m w) {cs:List V} {x:Value} (hx:RV J m w (.a cs) x)
  {I:V} {i:Value} (hi:RV J m w I i) {n:Int} (hn:idx I=some n) (h0:0<=n) (hlt:n.toNat<len) (ho:n.toNat*sz<=cs.length) {r:V} (hs:Xp nn (cs.drop (n.toNat*sz))=some r) :
  Fine J m w h r ((do pure (.value (<- Instr.index T x i)):Sem Next).run P w):=by
 obtain⟨k,rfl⟩:=Q0b hi hn
 obtain⟨arr,rfl,hp⟩:=hx
 obtain⟨v,h1,h2⟩:=Qfr hA hp ho hs
 have h3:n<len:=by omega
 have hrun:(do pure (.value (<- Instr.index T (.agg arr) (.int k n))):Sem Next).run P w=.ok (.value v) w:=by
  simp[Instr.index,asIntOf,run_underlying hT,Qm hE,h0,h3,h1]
 rw[hrun]
 exact Fine.pure hr h2
theorem Yy {l:List UInt8} {x:Value} (hx:RV J m w (.s l) x):x=.string ⟨l.toArray⟩:=by
 have:RD J w (.s l) x:=hx
 cases this;rfl
theorem Qo1 {T:TypeId} (hT:P.underlying T=some .string) (hr:RS J h m w) {l:List UInt8} {x:Value} (hx:RV J m w (.s l) x)
  {I:V} {i:Value} (hi:RV J m w I i) {n:Int} (hn:idx I=some n) (h0:0<=n) {b:UInt8} (hb:l[n.toNat]?=some b) :
  Fine J m w h (.i .u8 b.toNat) ((do pure (.value (<- Instr.index T x i)):Sem Next).run P w):=by
 obtain⟨k,rfl⟩:=Q0b hi hn
 have:=Yy hx;subst this
 have hlt:=(q8.1 hb).1
 have hb2:(ByteArray.mk l.toArray)[n.toNat]?=some b:=by
  rw[ByteArray.getElem?_lt' _ _ (by simpa[ByteArray.size]using hlt)]
  have:=(q8.1 hb).2
  simp only[Option.some.injEq]
  rw[<- this];rfl
 have hrun:(do pure (.value (<- Instr.index T (.string ⟨l.toArray⟩) (.int k n))):Sem Next).run P w=.ok (.value (.int .u8 b.toNat)) w:=by
  simp[Instr.index,asIntOf,run_underlying hT,h0,hb2]
 rw[hrun]
 exact Fine.pure hr (Qe (Qu (.i _ _)))
theorem Z9 {k:IntKind} {n:Int} {x:Value} (hx:RV J m w (.i k n) x):x=.int k n:=by
 have:RD J w (.i k n) x:=hx
 cases this;rfl
theorem Y9 {b:Bool} {x:Value} (hx:RV J m w (.b b) x):x=.bool b:=by
 have:RD J w (.b b) x:=hx
 cases this;rfl
theorem Ub (k:IntKind) (n:Int):RV J m w (.i k n) (.int k n):=Qe (Qu (.i k n))
theorem Q7g (b:Bool):RV J m w (.b b) (.bool b):=Qe (Qu (.b b))
theorem rv_s (l:List UInt8):RV J m w (.s l) (.string ⟨l.toArray⟩):=Qe (Qu (.s l))
theorem I4 (l:List UInt8):(ByteArray.mk l.toArray).size=l.length:=by simp[ByteArray.size]
theorem Qbq {op:BinOp} {t:TypeId} {ox oy:Operand} (hr:RS J h m w) {X Y:V} {x y:Value} (hx:RV J m w X x) (hy:RV J m w Y y) {r:V} (hs:Qot op X Y=some r) :
  Fine J m w h r ((do pure (.value (<- (do eqGuard op t ox oy x y;binOp op t x y))):Sem Next).run P w):=by
 unfold Qot at hs
 split at hs
 ·rename_i k a k' b
  have:=Z9 hx;subst this
  have:=Z9 hy;subst this
  split at hs
  ·rename_i hop
   unfold Q7d at hs
   split at hs
   ·simp at hs
   ·rename_i hneg
    rcases hop with rfl | rfl<;>simp at hs<;>subst hs <;>
     simp only[Sem.run_bind,eqGuard_at_int,eqGuard_at_string,eqGuard_at_bool,Sem.run_pure,Result.andThen_ok,binOp,Op.shift,hneg,if_false,Sem.run_pure]<;>exact Fine.pure hr (Ub _ _)
  ·rename_i hop
   split at hs
   case isFalse=>simp at hs
   rename_i hk
   subst hk
   simp only[not_or]at hop
   simp only[Sem.run_bind,eqGuard_at_int,eqGuard_at_string,eqGuard_at_bool,Sem.run_pure,Result.andThen_ok]
   cases op<;>simp[Jm]at hs<;>(try (exfalso;exact hop.1 rfl))<;>(try (exfalso;exact hop.2 rfl)) <;>
    first
    | (subst hs;simp only[binOp,ne_eq,not_true,if_false,Op.intArith,Op.intCmp,Op.intBits,Sem.run_pure,Result.andThen_ok];first | exact Fine.pure hr (Ub _ _) | exact Fine.pure hr (Q7g _))
    | (obtain⟨h0,rfl⟩:=hs;simp only[binOp,ne_eq,not_true,if_false,Op.intDiv,h0,Sem.run_pure,Result.andThen_ok];exact Fine.pure hr (Ub _ _))
 ·rename_i a b
  have:=Yy hx;subst this
  have:=Yy hy;subst this
  simp only[Sem.run_bind,eqGuard_at_int,eqGuard_at_string,eqGuard_at_bool,Sem.run_pure,Result.andThen_ok]
  have hsz:∀l:List UInt8,(ByteArray.mk l.toArray).size=l.length:=λl=>by simp[ByteArray.size]
  have happ:(ByteArray.mk a.toArray)++(ByteArray.mk b.toArray)=ByteArray.mk (a++b).toArray:=by
   apply ByteArray.ext
   simp
  cases op<;>simp only[strV,Option.some.injEq,j6,reduceCtorEq]at hs <;>
   first
   | (subst hs;simp only[binOp,Op.stringOp,ByteArray.toList_mk,Sem.run_pure,Result.andThen_ok];exact Fine.pure hr (Q7g _))
   | (obtain⟨h0,rfl⟩:=hs
      have h1:¬ (((ByteArray.mk a.toArray).size+(ByteArray.mk b.toArray).size:Nat):Int) > IntKind.i64.max:=by rw[hsz,hsz,IntKind.max_i64];omega
      simp only[binOp,Op.stringOp,h1,if_false,Sem.run_pure,Result.andThen_ok,happ];exact Fine.pure hr (rv_s _))
 ·simp at hs
theorem Qo5 {op:BinOp} {t:TypeId} {ox oy:Operand} (ht:P.underlying t=some .bool) (hop:op=.eql∨op=.neq) (hr:RS J h m w) {p q:Bool} {x y:Value} (hx:RV J m w (.b p) x) (hy:RV J m w (.b q) y) :
  Fine J m w h (.b (if op=.neq then !(p == q) else p == q)) ((do pure (.value (<- (do eqGuard op t ox oy x y;binOp op t x y))):Sem Next).run P w):=by
 have:=Y9 hx;subst this
 have:=Y9 hy;subst this
 have h1:∀w,(Op.equal t (.bool p) (.bool q)).run P w=.ok (p == q) w:=λw=>run_equalIn_bool' w 9999 t p q ht
 rcases hop with rfl | rfl
 ·have e:binOp .eql t (.bool p) (.bool q)=(do pure (.bool (<- Op.equal t (.bool p) (.bool q)))):=rfl
  simp only[eqGuard_at_bool,Sem.run_bind,Sem.run_pure,Result.andThen_ok,e,h1]
  exact Fine.pure hr (Q7g _)
 ·have e:binOp .neq t (.bool p) (.bool q)=(do pure (.bool (!(<- Op.equal t (.bool p) (.bool q))))):=rfl
  simp only[eqGuard_at_bool,Sem.run_bind,Sem.run_pure,Result.andThen_ok,e,h1]
  exact Fine.pure hr (Q7g _)
theorem fine_un {op:UnOp} (hr:RS J h m w) {X:V} {x:Value} (hx:RV J m w X x) {r:V} (hs:unV op X=some r) :
  Fine J m w h r ((do pure (.value (<- Op.unary op x)):Sem Next).run P w):=by
 unfold unV at hs
 split at hs
 ·have:=Y9 hx;subst this
  cases op<;>simp at hs
  subst hs
  simp only[Op.unary,Sem.run_bind,Sem.run_pure,Result.andThen_ok]
  exact Fine.pure hr (Q7g _)
 ·have:=Z9 hx;subst this
  cases op<;>simp at hs
  subst hs
  simp only[Op.unary,Op.intArith,Sem.run_bind,Sem.run_pure,Result.andThen_ok]
  exact Fine.pure hr (by simpa using Ub _ _)
 ·simp at hs
theorem Qo7 {S D:TypeId} {d:TypeDesc} {k k':IntKind} {n:Int} (hS:P.underlying S=some d) (hD:P.underlying D=some (.int k)) (hr:RS J h m w) {x:Value} (hx:RV J m w (.i k' n) x) :
  Fine J m w h (.i k (k.wrap n)) ((do pure (.value (<- convert S D x)):Sem Next).run P w):=by
 have:=Z9 hx;subst this
 have hrun:(do pure (.value (<- convert S D (.int k' n))):Sem Next).run P w=.ok (.value (.int k (k.wrap n))) w:=by
  simp[convert,run_underlying hS,run_underlying hD,Conv.intToInt]
 rw[hrun]
 exact Fine.pure hr (Ub _ _)
theorem Qo3 (hr:RS J h m w) {vs:List V} {x:Value} (hx:RV J m w (.t vs) x) {i:Nat} {r:V} (hi:vs[i]?=some r) :
  Fine J m w h r ((do pure (.value (<- Instr.extract x i)):Sem Next).run P w):=by
 obtain⟨arr,rfl,hp⟩:=hx
 obtain⟨c,h1,h2⟩:=hp.get hi
 have h3:arr[i]?=some c:=by simpa using h1
 have hrun:(do pure (.value (<- Instr.extract (.tuple arr) i)):Sem Next).run P w=.ok (.value c) w:=by simp[Instr.extract,h3]
 rw[hrun]
 exact Fine.pure hr (Z5 h2)
theorem Xd {X:V} {x:Value} {sz:Nat} {els:List (List V)} (hr:RS J h m w) (hx:RV J m w X x) (he:Zi sz h X=some els) :
  ∃a cap,x=.slice a els.length cap/\els.length<=cap/\(a=none->els.length=0/\cap=0)/\(∀(i:Nat) (el:List V),els[i]?=some el->el.length=sz) /\
   ∀a',a=some a'->∃cs:Nat->Nat->Value,(∀i j,i<els.length->j<sz->w.cell? (a'.add (i*sz+j))=some (cs i j))/\∀(i:Nat) (el:List V) (j:Nat) (v:V),els[i]?=some el->el[j]?=some v->RC J m w v (cs i j):=by
 cases X<;>first | (simp[Zi]at he;done) | skip
 case nil =>
  simp only[Zi,Option.some.injEq]at he
  subst he
  have hx':RD J w .nil x:=hx
  cases hx' with
  | nil0=>exact⟨none,0,rfl,by simp,by simp,by simp,by simp⟩
  | nil1 a=>exact⟨some a,0,rfl,by simp,by simp,by simp,λa' _=>⟨λ_ _=>undef,by simp,by simp⟩⟩
 case l sz' els' =>
  simp only[Zi,j6,Option.some.injEq]at he
  obtain⟨rfl,rfl⟩:=he
  have hx':RD J w (.l sz' els') x:=hx
  cases hx' with
  | l0=>exact⟨none,0,rfl,by simp,by simp,by simp,by simp⟩
  | l1 _ a cap=>exact⟨some a,cap,rfl,by simp,by simp,by simp,λa' _=>⟨λ_ _=>undef,by simp,by simp⟩⟩
  | l _ _ a cap cs hj hc hsz hcell hrd =>
    refine⟨some a,cap,rfl,hc,by simp,hsz,λa' ha=>?_⟩
    obtain rfl:=Option.some.inj ha
    exact⟨cs,hcell,λi el j v h1 h2=>Qu (hrd i el j v h1 h2)⟩
 case own id g off len =>
  simp only[Zi]at he
  split at he
  case h_2=>simp at he
  rename_i g' sz' els' ho
  split at he
  case isFalse=>simp at he
  rename_i hcond
  obtain⟨rfl,rfl,hle⟩:=hcond
  obtain rfl:=Option.some.inj he
  obtain⟨en,hen,hg,hsz,hsl,hobj⟩:=Xo hr hx ho
  obtain⟨_,_,hsz',hobj⟩:=hobj
  have hlen:((els'.drop off).take len).length=len:=by simp;omega
  have hgetE:∀i,((els'.drop off).take len)[i]?=if i<len then els'[off+i]? else none:=by
   intro i;rw[jb];split<;>simp
  rw[hlen]
  have hszE:∀(i:Nat) (el:List V),((els'.drop off).take len)[i]?=some el->el.length=sz':=by
   intro i el hi
   rw[hgetE]at hi
   split at hi
   case isFalse=>simp at hi
   exact hsz' _ _ hi
  unfold Ent.sl at hsl
  cases hb:en.blk with
  | none =>
    rw[hb]at hsl
    obtain⟨h1,h2,h3⟩:=hsl
    subst h2
    rcases h3 with rfl | ⟨a,rfl⟩
    ·exact⟨none,0,rfl,by simp,by simp,hszE,by simp⟩
    ·exact⟨some a,0,rfl,by simp,by simp,hszE,λa' _=>⟨λ_ _=>undef,by simp,by simp⟩⟩
  | some B =>
    rw[hb]at hsl hobj
    obtain⟨o,cc,rfl,h1,h2⟩:=hsl
    obtain⟨h5,h5',c,ty,fz,h6,h7,h8,h9⟩:=hobj
    refine⟨some ⟨B,o,none⟩,cc,rfl,by omega,by simp,hszE,λa' ha=>?_⟩
    obtain rfl:=Option.some.inj ha
    refine⟨λi j=>(c[(en.base+(off+i))*sz'+j]?).getD undef,λi j hi hj=>?_,λi el j v hi hj=>?_⟩
    ·have hi':i<len:=by omega
     rw[Addr.add_lit,h2 (by omega),hsz]
     have hlt:(en.base+off)*sz'+(i*sz'+j)=(en.base+(off+i))*sz'+j:=by
      rw[<- Nat.add_assoc,<- Nat.add_mul,Nat.add_assoc]
     rw[hlt]
     have hin:(en.base+(off+i))*sz'+j<c.size:=by
      rw[h7]
      have:=j5 sz' (show en.base+(off+i)+1<=en.base+en.cap by omega)
      rw[Nat.add_mul,Nat.one_mul]at this
      omega
     simp[World.cell?,h6,hin]
    ·rw[hgetE]at hi
     split at hi
     case isFalse=>simp at hi
     obtain⟨cv,h10,h11⟩:=h9 _ _ _ _ hi hj
     simp[h10,h11]
theorem Jg {t ty e:TypeId} (ht:P.underlying t=some (.slice e)) (hr:RS J h m w) {X:V} {x:Value} (hx:RV J m w X x) {n:Nat}
  (hn:∃a cap,x=.slice a n cap):Fine J m w h (.i .i64 n) ((do pure (.value (<- Builtin.len_ #[t] ty #[x])):Sem Next).run P w):=by
 obtain⟨a,cap,rfl⟩:=hn
 have hrun:(do pure (.value (<- Builtin.len_ #[t] ty #[.slice a n cap])):Sem Next).run P w=.ok (.value (.int .i64 n)) w:=by
  simp[Builtin.len_,run_underlying ht,goInt]
 rw[hrun]
 exact Fine.pure hr (Ub _ _)
theorem Q8i {t ty:TypeId} (ht:P.underlying t=some .string) (hr:RS J h m w) {l:List UInt8} {x:Value} (hx:RV J m w (.s l) x) :
  Fine J m w h (.i .i64 l.length) ((do pure (.value (<- Builtin.len_ #[t] ty #[x])):Sem Next).run P w):=by
 have:=Yy hx;subst this
 have hrun:(do pure (.value (<- Builtin.len_ #[t] ty #[.string ⟨l.toArray⟩])):Sem Next).run P w=.ok (.value (.int .i64 l.length)) w:=by
  simp[Builtin.len_,run_underlying ht,goInt,I4]
 rw[hrun]
 exact Fine.pure hr (Ub _ _)
theorem Q8j {t ty k e:TypeId} (ht:P.underlying t=some (.map k e)) (hr:RS J h m w) {id:Nat} {x:Value} (hx:RV J m w (.mp id) x) {es:List (V × V)} (ho:h[id]?=some (.mp es)) :
  Fine J m w h (.i .i64 es.length) ((do pure (.value (<- Builtin.len_ #[t] ty #[x])):Sem Next).run P w):=by
 obtain⟨_,en,hen,_,hp⟩:=hx
 have hobj:=hr.obj id en _ hen ho
 simp only[RO]at hobj
 obtain⟨h0,B,hB,ms,h1,h2,h3⟩:=hobj
 obtain⟨B',hB',rfl⟩:=hp h0.symm
 obtain rfl:=Option.some.inj (hB.symm.trans hB')
 have hrun:(do pure (.value (<- Builtin.len_ #[t] ty #[.map (some B)])):Sem Next).run P w=.ok (.value (.int .i64 es.length)) w:=by
  simp[Builtin.len_,run_underlying ht,goInt,getObj,Sem.run,h1,h2]
 rw[hrun]
 exact Fine.pure hr (Ub _ _)
theorem Q5m {t ty k e:TypeId} (ht:P.underlying t=some (.map k e)) (hr:RS J h m w) {x:Value} (hx:RV J m w .mnil x) :
  Fine J m w h (.i .i64 0) ((do pure (.value (<- Builtin.len_ #[t] ty #[x])):Sem Next).run P w):=by
 have:x=.map none:=hx
 subst this
 have hrun:(do pure (.value (<- Builtin.len_ #[t] ty #[.map none])):Sem Next).run P w=.ok (.value (.int .i64 0)) w:=by
  simp[Builtin.len_,run_underlying ht,goInt]
 rw[hrun]
 exact Fine.pure hr (Ub _ _)
theorem Q8k {t ty e:TypeId} {n:Nat} (ht:P.underlying t=some (.array n e)) (hr:RS J h m w) (x:Value) :
  Fine J m w h (.i .i64 n) ((do pure (.value (<- Builtin.len_ #[t] ty #[x])):Sem Next).run P w):=by
 have hrun:(do pure (.value (<- Builtin.len_ #[t] ty #[x])):Sem Next).run P w=.ok (.value (.int .i64 n)) w:=by
  simp[Builtin.len_,run_underlying ht,goInt]
 rw[hrun]
 exact Fine.pure hr (Ub _ _)
end
end Go.Abs
namespace Go.Abs
open Go.RowKit
section
variable {P:Program} {J:Nat->Prop} {m:List Ent} {w:World} {h:List O}
def Q6g (n sz:Nat) (cs:Nat->Nat->Value):List Value:=(List.range (n*sz)).map λq=>cs (q / sz) (q % sz)
theorem Q6e (n sz:Nat) (cs:Nat->Nat->Value):(Q6g n sz cs).length=n*sz:=by simp[Q6g]
theorem Q6f {n sz:Nat} {cs:Nat->Nat->Value} {i j:Nat} (hi:i<n) (hj:j<sz):(Q6g n sz cs)[i*sz+j]?=some (cs i j):=by
 have h1:i*sz+j<n*sz:=by
  have:=j5 sz (show i+1<=n from hi)
  rw[Nat.add_mul,Nat.one_mul]at this;omega
 have h2:(i*sz+j) / sz=i:=by
  rw[Nat.mul_comm,Nat.mul_add_div (by omega),Nat.div_eq_of_lt hj,Nat.add_zero]
 have h3:(i*sz+j) % sz=j:=by
  rw[Nat.mul_comm,Nat.mul_add_mod,Nat.mod_eq_of_lt hj]
 simp[Q6g,h1,h2,h3]
theorem Qe9 {n sz:Nat} {cs:Nat->Nat->Value} {a:Addr} (hc:∀i j,i<n->j<sz->w.cell? (a.add (i*sz+j))=some (cs i j)) :
  ∀q v,(Q6g n sz cs)[q]?=some v->w.cell? (a.add q)=some v:=by
 intro q v hq
 have hlt:=(q8.1 hq).1
 rw[Q6e]at hlt
 have hsz:0<sz:=by
  rcases Nat.eq_zero_or_pos sz with h | h
  ·subst h;simp at hlt
  ·exact h
 have h1:q / sz<n:=Nat.div_lt_of_lt_mul (by rw[Nat.mul_comm];exact hlt)
 have h2:q % sz<sz:=Nat.mod_lt _ hsz
 have h3:=hc _ _ h1 h2
 have h4:q / sz*sz+q % sz=q:=by rw[Nat.mul_comm];exact Nat.div_add_mod q sz
 rw[h4]at h3
 have h5:=Q6f (n:=n) (cs:=cs) h1 h2
 rw[h4,hq]at h5
 rw[h3];exact h5.symm
def Flat (R:V->Value->Prop) (sz:Nat) (els:List (List V)) (vs:List Value):Prop :=
 vs.length=els.length*sz/\(∀(i:Nat) (el:List V),els[i]?=some el->el.length=sz) /\
  ∀(i:Nat) (el:List V) (j:Nat) (x:V),els[i]?=some el->el[j]?=some x->∃cv,vs[i*sz+j]?=some cv/\R x cv
theorem Flat.nil {R:V->Value->Prop} {sz:Nat}:Flat R sz [] []:=⟨by simp,by simp,by simp⟩
theorem Flat.append {R:V->Value->Prop} {sz:Nat} {els els':List (List V)} {vs vs':List Value} (h1:Flat R sz els vs) (h2:Flat R sz els' vs'):Flat R sz (els++els') (vs++vs'):=by
 refine⟨by simp[h1.1,h2.1,Nat.add_mul],λi el hi=>?_,λi el j x hi hj=>?_⟩
 ·by_cases hlt:i<els.length
  ·rw[qd hlt]at hi;exact h1.2.1 i el hi
  ·rw[qf (by omega)]at hi;exact h2.2.1 _ el hi
 ·by_cases hlt:i<els.length
  ·rw[qd hlt]at hi
   obtain⟨cv,h3,h4⟩:=h1.2.2 i el j x hi hj
   refine⟨cv,?_,h4⟩
   rw[qd (q8.1 h3).1,h3]
  ·rw[qf (by omega)]at hi
   obtain⟨cv,h3,h4⟩:=h2.2.2 _ el j x hi hj
   refine⟨cv,?_,h4⟩
   rw[qf (by rw[h1.1];have:=j5 sz (show els.length<=i by omega);omega),h1.1,<- h3]
   congr 1
   have:i*sz=els.length*sz+(i-els.length)*sz:=by rw[<- Nat.add_mul];congr 1;omega
   omega
theorem Flat.replicate {R:V->Value->Prop} {sz:Nat} {el:List V} {vs:Array Value} (hp:Pw R el vs.toList) (hl:el.length=sz) (n:Nat) :
  Flat R sz (List.replicate n el) (madeCells vs (n*sz)).toList:=by
 have hvl:vs.size=sz:=by rw[<- hl];simpa using hp.1.symm
 refine⟨by simp[size_madeCells],λi e hi=>?_,λi e j x hi hj=>?_⟩
 ·rw[je]at hi
  split at hi
  case isFalse=>simp at hi
  rw[<- Option.some.inj hi];exact hl
 ·rw[je]at hi
  split at hi
  case isFalse=>simp at hi
  rename_i hin
  obtain rfl:=Option.some.inj hi
  obtain⟨cv,h1,h2⟩:=hp.get hj
  refine⟨cv,?_,h2⟩
  have hjl:=(q8.1 hj).1
  rw[hl]at hjl
  have hlt:i*sz+j<n*sz:=by
   have:=j5 sz (show i+1<=n from hin)
   rw[Nat.add_mul,Nat.one_mul]at this;omega
  have hmod:(i*sz+j) % sz=j:=by rw[Nat.mul_comm,Nat.mul_add_mod,Nat.mod_eq_of_lt hjl]
  have h3:vs[j]?=some cv:=by simpa using h1
  have h4:vs[j]! = cv:=by rw[getElem!_def,h3]
  simp[madeCells,hlt,hvl,hmod,h4]
theorem Yz {X:V} {x:Value} {sz:Nat} {els:List (List V)} (hr:RS J h m w) (hx:RV J m w X x) (he:Zi sz h X=some els) :
  ∃a cap vs,x=.slice a els.length cap/\els.length<=cap/\(a=none->els.length=0/\cap=0)/\Flat (RC J m w) sz els vs/\(∀a',a=some a'->∀j v,vs[j]?=some v->w.cell? (a'.add j)=some v):=by
 obtain⟨a,cap,rfl,h1,h2,h3,h4⟩:=Xd hr hx he
 cases a with
 | none =>
   obtain⟨h5,h6⟩:=h2 rfl
   have:els=[]:=ql h5
   subst this
   exact⟨none,cap,[],rfl,h1,h2,Flat.nil,by simp⟩
 | some a =>
   obtain⟨cs,h5,h6⟩:=h4 a rfl
   refine⟨some a,cap,Q6g els.length sz cs,rfl,h1,by simp,⟨Q6e _ _ _,h3,λi el j x hi hj=>?_⟩,λa' ha=>?_⟩
   ·have hil:=(q8.1 hi).1
    have hjl:=(q8.1 hj).1
    rw[h3 i el hi]at hjl
    exact⟨_,Q6f hil hjl,h6 i el j x hi hj⟩
   ·obtain rfl:=Option.some.inj ha
    exact Qe9 h5
theorem Zg {sz n:Nat} {a:Option Addr} {len cap:Nat} {vs:List Value} (hl:vs.length=n*sz) (ha:a=none->n=0) (hc:∀a',a=some a'->∀j v,vs[j]?=some v->w.cell? (a'.add j)=some v) :
  (Builtin.firstCells sz n (.slice a len cap)).run P w=.ok vs.toArray w:=by
 cases a with
 | none =>
   have:=ha rfl
   subst this
   have:vs=[]:=ql (by simpa using hl)
   subst this
   exact run_firstCells_none w _ _ _ _
 | some a=>exact run_firstCells_some w sz n a len cap vs hl (hc a rfl)
theorem W5 {t t' ty e e':TypeId} {i:TypeInfo} {z:Value} (ht:P.underlying t=some (.slice e)) (ht':P.underlying t'=some (.slice e')) (hi:P.info? e=some i) (hz:i.zero=some z)
  {a b:Option Addr} {sLen sCap n c:Nat} {olds news:List Value} (hlo:olds.length=sLen*i.size) (hao:a=none->sLen=0) (hco:∀a',a=some a'->∀j v,olds[j]?=some v->w.cell? (a'.add j)=some v)
  (hln:news.length=n*i.size) (hbn:b=none->n=0) (hcn:∀a',b=some a'->∀j v,news[j]?=some v->w.cell? (a'.add j)=some v)
  (hg:sCap<sLen+n) (h63:((sLen+n:Nat):Int)<=9223372036854775807) (hfit:Builtin.nextslicecap (sLen+n) sCap*i.bytes<=281474976710656) :
  (Builtin.append_ #[t,t'] ty #[.slice a sLen sCap,.slice b n c]).run P w =
   .ok (.slice (some ⟨w.heap.size,0,none⟩) (sLen+n) (grownCap w (sLen+n) sCap e))
    (w.drew.alloc (.cells (olds.toArray++news.toArray++Builtin.zeroCells z.cells (grownCap w (sLen+n) sCap e-(sLen+n))) e)):=by
 have hno:¬ sLen+n<=sCap:=by omega
 have h63':¬ (9223372036854775807<(sLen:Int)+(n:Int)):=by omega
 have hfit':¬ (Builtin.nextslicecap (sLen+n) sCap*i.bytes > 281474976710656):=by omega
 have hf:=Zg (P:=P) (w:=w.drew) (len:=n) (cap:=c) hln hbn (λa' ha j v hj=>hcn a' ha j v hj)
 have hfo:=Zg (P:=P) (w:=w.drew) (len:=sLen) (cap:=sCap) hlo hao (λa' ha j v hj=>hco a' ha j v hj)
 simp[Builtin.append_,run_underlying ht,run_underlying ht',sizeOf,typeInfo,zeroValue,hi,hz,Builtin.lenOf,hno,h63',hfit',Question.forced,hf,hfo,newRow,grownCap]
 congr 2
 apply Array.ext'
 simp
theorem Q34 {t t' ty e e':TypeId} {i:TypeInfo} (ht:P.underlying t=some (.slice e)) (ht':P.underlying t'=some (.slice e')) (hi:P.info? e=some i)
  {B o sLen sCap n c:Nat} {b:Option Addr} {news:List Value} {cur:Array Value} {fz:Nat × Nat} {ty':TypeId}
  (hln:news.length=n*i.size) (hbn:b=none->n=0) (hcn:∀a',b=some a'->∀j v,news[j]?=some v->w.cell? (a'.add j)=some v)
  (hg:sLen+n<=sCap) (hB:w.heap[B]?=some (.cells cur ty' fz)) (hfit:o+sLen*i.size+news.length<=cur.size) (h1:∀v∈news,v.oneCell'=true) (hz:∀k,k<cur.size->¬ (fz.1<=k/\k<fz.2)) :
  (Builtin.append_ #[t,t'] ty #[.slice (some ⟨B,o,none⟩) sLen sCap,.slice b n c]).run P w =
   .ok (.slice (some ⟨B,o,none⟩) (sLen+n) sCap) (w.setRow B (cur.toList.take (o+sLen*i.size)++news++cur.toList.drop (o+sLen*i.size+news.length)).toArray):=by
 have hf:=Zg (P:=P) (w:=w) (len:=n) (cap:=c) hln hbn hcn
 have hst:=Zk (P:=P) B (o+sLen*i.size) ty' fz news 0 cur w hB (by omega) h1 hz
 simp only[Nat.add_zero]at hst
 simp[Builtin.append_,run_underlying ht,run_underlying ht',sizeOf,typeInfo,hi,Builtin.lenOf,hg,hf,Addr.add_lit,hst]
theorem Ks {t t' ty e e':TypeId} {i:TypeInfo} (ht:P.underlying t=some (.slice e)) (ht':P.underlying t'=some (.slice e')) (hi:P.info? e=some i) (a b:Option Addr) (sCap c:Nat) :
  (Builtin.append_ #[t,t'] ty #[.slice a 0 sCap,.slice b 0 c]).run P w=.ok (.slice a 0 sCap) w:=by
 have hf:∀w,(Builtin.firstCells i.size 0 (.slice b 0 c)).run P w=.ok #[] w:=λw=>by
  cases b with
  | none=>exact run_firstCells_none w _ _ _ _
  | some b=>exact run_firstCells_some w _ 0 b 0 c [] (by simp) (by simp)
 cases a<;>simp[Builtin.append_,run_underlying ht,run_underlying ht',sizeOf,typeInfo,hi,Builtin.lenOf,hf,storeCells]
end
end Go.Abs
