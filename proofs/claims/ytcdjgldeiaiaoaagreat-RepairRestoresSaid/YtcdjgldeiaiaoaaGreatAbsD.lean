/- Part of the library on which the proof stands: an abstract machine, its values and its soundness against the model; or what functions of the program do to such values. -/
import Derived.Test.YtcdjgldeiaiaoaaGreatAbsC
set_option linter.unusedVariables false
namespace Go.Abs
open Go.RowKit
section
variable {P:Program}
theorem Qm {T:TypeId} {n:Nat} (h:(P.info? T).map (·.size)=some n) (w:World):(sizeOf T).run P w=.ok n w:=by
 cases hi:P.info? T with
 | none=>simp[hi]at h
 | some i=>simp[hi]at h;simp[sizeOf,typeInfo,hi,h]
theorem Zl (g o:Nat) (t:TypeId) (fz:Nat × Nat):∀(vs:List Value) (i:Nat) (cur:Array Value) (w:World),w.heap[g]?=some (.cells cur t fz)->o+i+vs.length<=cur.size->(∀v∈vs,v.oneCell'=true) ->
  (∀k,k<cur.size->¬ (fz.1<=k/\k<fz.2)) ->
  (storeCells ⟨g,o,none⟩ vs i).run P w=.ok () (w.setRow g (cur.toList.take (o+i)++vs++cur.toList.drop (o+i+vs.length)).toArray)
 | [],i,cur,w,hg,_,_,_=>by
   simp only[storeCells,List.append_nil,List.length_nil,Nat.add_zero,List.take_append_drop,Array.toArray_toList]
   rw[setRow_self w g cur t fz hg]
   rfl
 | v::rest,i,cur,w,hg,hl,h1,hz=>by
   have hi:o+i<cur.size:=by simp at hl;omega
   have hadd:(⟨g,o,none⟩:Addr).add i=⟨g,o+i,none⟩:=by unfold Addr.add;split<;>simp_all
   have hcell:w.cell? ⟨g,o+i,none⟩=some cur[o+i]:=by simp[World.cell?,hg,hi]
   have hfro:w.frozen? ⟨g,o+i,none⟩=false:=by
    obtain⟨lo,hi'⟩:=fz
    have:=hz (o+i) hi
    simp only[World.frozen?,hg]
    simp at this ⊢
    exact this
   have hst:(store ((⟨g,o,none⟩:Addr).add i) v).run P w=.ok () (w.setRow g (cur.setIfInBounds (o+i) v)):=by
    rw[hadd,run_store P w _ v _ (h1 v (by simp)),hcell]
    simp[hfro,setCell_eq_setRow w g (o+i) cur t fz v hg]
   have ih:=Zl g o t fz rest (i+1) (cur.setIfInBounds (o+i) v) (w.setRow g (cur.setIfInBounds (o+i) v)) (setRow_heap w g cur _ t _ hg) (by simp at hl ⊢;omega) (λx hx=>h1 x (by simp[hx])) (by simpa using hz)
   simp only[storeCells,Sem.run_bind,hst,Result.andThen_ok,ih,setRow_setRow]
   congr 3
   have e:=list_seg_step cur.toList (o+i) v rest (by simp at hl ⊢;omega)
   simpa[Array.toList_setIfInBounds,Nat.add_assoc]using e
def Bt (P:Program) (T:TypeId):Option (Option Nat) :=
 match P.underlying T,P.info? T with
 | some (.struct _),some i=>some (some i.size)
 | some (.array _ _),some i=>some (some i.size)
 | some _,some _=>some none
 | _,_=>none
theorem Zt {T:TypeId} {n:Nat} (h:Bt P T=some (some n)) (w:World):(isAgg T).run P w=.ok true w/\(sizeOf T).run P w=.ok n w:=by
 unfold Bt at h
 split at h<;>simp at h
 ·rename_i hu hi
  exact⟨by simp[isAgg,run_underlying hu],Qm (by rw[hi];simp[h]) w⟩
 ·rename_i hu hi
  exact⟨by simp[isAgg,run_underlying hu],Qm (by rw[hi];simp[h]) w⟩
theorem J5 {T:TypeId} (h:Bt P T=some none) (w:World):(isAgg T).run P w=.ok false w:=by
 unfold Bt at h
 split at h<;>simp at h
 rename_i d i h1 h2 hu hi
 cases d<;>first | (exfalso;exact h1 _ rfl) | (exfalso;exact h2 _ _ rfl) | simp[isAgg,run_underlying hu]
section
variable {J:Nat->Prop} {m:List Ent} {w:World} {h:List O}
theorem Addr.add_block (a:Addr) (n:Nat):(a.add n).block=a.block:=by unfold Addr.add;split<;>rfl
theorem Q3a (hr:RS J h m w) {X:V} {x:Value} (hx:RV J m w X x) {cs:List V} (hc:X5 h X=some cs) :
  ∃a,x=.pointer (some a)/\∃vs,Pw (RC J m w) cs vs/\∀j v,vs[j]?=some v->w.cell? (a.add j)=some v:=by
 unfold X5 at hc
 split at hc
 ·rename_i cells
  simp at hc;subst hc
  obtain⟨a,rfl,hj,hcell⟩:=hx
  refine⟨a,rfl,(List.range cells.length).map (λj=>(w.cell? (a.add j)).getD undef),⟨by simp,λi v c hv hcc=>?_⟩,λj v hv=>?_⟩
  ·obtain⟨cv,h1,h2⟩:=hcell i v hv
   have hi:=(q8.1 hv).1
   simp[hi,h1]at hcc
   subst hcc
   exact Qn h2
  ·have hi:=(q8.1 hv).1
   simp at hi
   obtain⟨cv,h1,h2⟩:=hcell j cells[j] (q9 hi)
   simp[hi,h1]at hv
   rw[h1,hv]
 ·rename_i id g e j
  split at hc
  case h_2=>simp at hc
  rename_i g' sz els ho
  split at hc
  case isFalse=>simp at hc
  rename_i hgg
  subst hgg
  simp only[qt]at hc
  obtain⟨cs0,he,hc⟩:=hc
  split at hc
  case isFalse=>simp at hc
  rename_i hjl
  obtain rfl:=Option.some.inj hc
  obtain⟨_,en,hen,_,hp⟩:=hx
  have hobj:=hr.obj id en _ hen ho
  simp only[RO]at hobj
  obtain⟨h1,h2,h3,h4⟩:=hobj
  obtain⟨B,hB,rfl⟩:=hp h1.symm
  rw[hB]at h4
  obtain⟨h5,h5',c,ty,fz,h6,h7,h8,h9⟩:=h4
  have hlen:=h3 e cs0 he
  subst h2
  have hel:=(q8.1 he).1
  have hcs:c.size=(en.base+en.cap)*en.sz:=h7
  have hbase:(en.base+e)*en.sz+en.sz<=(en.base+en.cap)*en.sz:=by
   rw[<- Nat.succ_mul];exact j5 _ (by omega)
  refine⟨⟨B,(en.base+e)*en.sz+j,none⟩,rfl,(c.toList.drop ((en.base+e)*en.sz+j)).take (cs0.length-j),⟨?_,λi v cv hv hcv=>?_⟩,λi v hv=>?_⟩
  ·simp[List.length_drop];omega
  ·rw[jb]at hcv
   split at hcv<;>simp at hcv
   obtain⟨cv',h10,h11⟩:=h9 e cs0 (j+i) v he (by simpa using hv)
   rw[show (en.base+e)*en.sz+j+i=(en.base+e)*en.sz+(j+i) by omega,h10]at hcv
   rw[<- Option.some.inj hcv];exact h11
  ·rw[jb]at hv
   split at hv<;>simp at hv
   rw[Addr.add_lit]
   simp[World.cell?,h6,hv]
 ·simp at hc
theorem Q1z {n:Option Nat} {cs:List V} {r:V} (hp:J8 n cs=some r) {vs:List Value} (hv:Pw (RC J m w) cs vs) :
  match n with
  | none=>∃c,vs[0]?=some c/\RV J m w r c
  | some k=>k<=vs.length/\RV J m w r (.agg (vs.take k).toArray):=by
 cases n with
 | none =>
   simp only[J8]at hp
   cases cs with
   | nil=>simp at hp
   | cons y ys =>
     simp at hp;subst hp
     obtain⟨c,h1,h2⟩:=hv.get (i:=0) rfl
     exact⟨c,h1,Qe h2⟩
 | some k =>
   simp only[J8]at hp
   split at hp<;>simp at hp
   subst hp
   exact⟨by rw[<- hv.1];assumption,_,rfl,by simpa using hv.take k⟩
theorem Qdb {T:TypeId} {n:Option Nat} (hT:Bt P T=some n) (hr:RS J h m w) {X:V} {x:Value} (hx:RV J m w X x) {r:V} (hs:(X5 h X).bind (J8 n)=some r) :
  Fine J m w h r ((do pure (.value (<- Instr.loadAt T x)):Sem Next).run P w):=by
 simp only[qt]at hs
 obtain⟨cs,hc,hp⟩:=hs
 obtain⟨a,rfl,vs,hv,hcell⟩:=Q3a hr hx hc
 have:=Q1z hp hv
 cases n with
 | none =>
   obtain⟨c,h1,h2⟩:=this
   have h3:=hcell 0 c h1
   rw[Addr.add_zero']at h3
   simp only[Instr.loadAt,Instr.sureAddr,loadVar,Sem.run_bind,Sem.run_pure,Result.andThen_ok,J5 hT,Bool.false_eq_true,if_false,run_load,h3]
   exact Fine.pure hr h2
 | some k =>
   obtain⟨h1,h2⟩:=this
   have hl:=run_loadCells_list (P:=P) w a (vs.take k) (λj v hj=>hcell j v (by rw[jb]at hj;split at hj<;>simp_all))
   have hlen:(vs.take k).length=k:=by simp;omega
   rw[hlen]at hl
   simp only[Instr.loadAt,Instr.sureAddr,loadVar,Sem.run_bind,Sem.run_pure,Result.andThen_ok,(Zt hT w).1,if_true,(Zt hT w).2,hl]
   exact Fine.pure hr h2
theorem Wl {X:V} {x:Value} (hx:RV J m w X x) (hok:X.okA=true):Pw (RC J m w) X.cells x.cells.toList:=by
 cases X<;>simp[V.okA]at hok<;>simp only[V.cells]
 case a cs =>
  obtain⟨arr,rfl,hp⟩:=hx
  exact hp
 all_goals
  have h1:=Qkw (J:=J) (m:=m) (w:=w) rfl (by simp) (Qky (by intro vs h;cases h) hx)
  have h2:=RC.one h1
  have h3:x.cells=#[x]:=by cases x<;>first | rfl | simp[Value.oneCell']at h2
  rw[h3]
  exact Pw.cons h1 Pw.nil
theorem Qa9 {cs ys:List V} {j k:Nat} (hj:j+ys.length<=cs.length):(Xq cs j ys)[k]?=if k<j then cs[k]? else if k<j+ys.length then ys[k-j]? else cs[k]?:=by
 unfold Xq
 have hl:(cs.take j).length=j:=by simp;omega
 split
 ·rename_i hk
  rw[j2,qd (by omega),jb,if_pos hk]
 ·rename_i hk
  split
  ·rename_i hk2
   rw[qd (by simp;omega),qf (by omega),hl]
  ·rename_i hk2
   rw[qf (by simp;omega)]
   simp only[j3,hl,jc]
   congr 1
   omega
theorem Qa8 {cs ys:List V} {j:Nat} (hj:j+ys.length<=cs.length):(Xq cs j ys).length=cs.length:=by
 simp[Xq];omega
theorem Y0 {cs ys:List Value} {j k:Nat} (hj:j+ys.length<=cs.length):(cs.take j++ys++cs.drop (j+ys.length))[k]?=if k<j then cs[k]? else if k<j+ys.length then ys[k-j]? else cs[k]?:=by
 have hl:(cs.take j).length=j:=by simp;omega
 split
 ·rename_i hk
  rw[j2,qd (by omega),jb,if_pos hk]
 ·rename_i hk
  split
  ·rename_i hk2
   rw[qd (by simp;omega),qf (by omega),hl]
  ·rename_i hk2
   rw[qf (by simp;omega)]
   simp only[j3,hl,jc]
   congr 1
   omega
theorem Q82 {a b c d s:Nat} (hb:b<s) (hd:d<s) (h:a*s+b=c*s+d):a=c/\b=d:=by
 rcases Nat.lt_trichotomy a c with hlt | heq | hgt
 ·exfalso
  have:=j5 s (show a+1<=c from hlt)
  rw[Nat.add_mul,Nat.one_mul]at this
  omega
 ·subst heq;exact⟨rfl,by omega⟩
 ·exfalso
  have:=j5 s (show c+1<=a from hgt)
  rw[Nat.add_mul,Nat.one_mul]at this
  omega
theorem fine_st {T:TypeId} {n:Nat} (hT:(P.info? T).map (·.size)=some n) (hr:RS J h m w) {id g e j:Nat} {x:Value} (hx:RV J m w (.p id g e j) x) {Y:V} {y:Value} (hy:RV J m w Y y)
  {sz:Nat} {els:List (List V)} (ho:h[id]?=some (.arr g sz els)) {cs:List V} (he:els[e]?=some cs) (hn:Y.cells.length=n) (hj:j+n<=cs.length) (hok:Y.okA=true) :
  Fine J m w (h.set id (.arr g sz (els.set e (Xq cs j Y.cells)))) .any ((do Instr.storeAt T x y;pure .skip:Sem Next).run P w):=by
 obtain⟨_,en,hen,_,hp⟩:=hx
 have hobj:=hr.obj id en _ hen ho
 simp only[RO]at hobj
 obtain⟨h1,h2,h3,h4⟩:=hobj
 obtain⟨B,hB,rfl⟩:=hp h1.symm
 rw[hB]at h4
 obtain⟨h5,h5',c,ty,fz,h6,h7,h8,h9⟩:=h4
 have hlen:=h3 e cs he
 subst h2
 have hel:=(q8.1 he).1
 have hbase:(en.base+e)*en.sz+en.sz<=(en.base+en.cap)*en.sz:=by
  rw[<- Nat.succ_mul];exact j5 _ (by omega)
 have hcy:=Wl hy hok
 have hyl:y.cells.toList.length=n:=by rw[<- hcy.1,hn]
 have hst:=Zl (P:=P) B ((en.base+e)*en.sz+j) ty fz y.cells.toList 0 c w h6 (by rw[hyl];omega)
  (λv hv=>by
   obtain⟨i,hi⟩:=qr hv
   obtain⟨hlt,_⟩:=q8.1 hi
   exact RC.one (hcy.2 i _ v (q9 (by rw[hcy.1];exact hlt)) hi)) h8
 simp only[Nat.add_zero]at hst
 have hrun:(do Instr.storeAt T (.pointer (some ⟨B,(en.base+e)*en.sz+j,none⟩)) y;pure .skip:Sem Next).run P w=.ok .skip (w.setRow B (c.toList.take ((en.base+e)*en.sz+j)++y.cells.toList++c.toList.drop ((en.base+e)*en.sz+j+y.cells.toList.length)).toArray):=by
  have hsz:y.cells.size=n:=by simpa using hyl
  simp only[Instr.storeAt,Instr.sureAddr,storeVar,Sem.run_bind,Sem.run_pure,Result.andThen_ok,Qm hT,hsz,ne_eq,not_true,if_false,hst]
 rw[hrun]
 have hwB:B<w.heap.size:=(ja.1 h6).1
 have hml:Ml m (m.set id en):=Ml.set hen (Nat.le_refl _) (λ_=>rfl)
 have hset:m.set id en=m:=by
  apply qy
  intro i
  by_cases hi:id=i
  ·subst hi;rw[qn (q8.1 hen).1,hen]
  ·rw[qu hi]
 have hother:∀k,k<w.heap.size->en.blk≠some k->(w.setRow B (c.toList.take ((en.base+e)*en.sz+j)++y.cells.toList++c.toList.drop ((en.base+e)*en.sz+j+y.cells.toList.length)).toArray).heap[k]?=w.heap[k]?:=λk _ hk=>setRow_other w B k _ (λhkb=>hk (by rw[hB,hkb]))
 have hJ:∀k,J k->(w.setRow B (c.toList.take ((en.base+e)*en.sz+j)++y.cells.toList++c.toList.drop ((en.base+e)*en.sz+j+y.cells.toList.length)).toArray).heap[k]?=w.heap[k]?:=λk hk=>hother k (hr.jlt k hk) (λhkb=>(hr.dis id en k hen hkb).1 hk)
 have hs:w.heap.size<=(w.setRow B (c.toList.take ((en.base+e)*en.sz+j)++y.cells.toList++c.toList.drop ((en.base+e)*en.sz+j+y.cells.toList.length)).toArray).heap.size:=by simp[World.setRow]
 refine⟨undef,_,J,m,.inr ⟨rfl,rfl⟩,trivial,?_,λn=>?_,Ml.refl m⟩
 ·have:=RS.upd hr (w':=w.setRow B (c.toList.take ((en.base+e)*en.sz+j)++y.cells.toList++c.toList.drop ((en.base+e)*en.sz+j+y.cells.toList.length)).toArray) en (.arr g en.sz (els.set e (Xq cs j Y.cells))) hen (Nat.le_refl _) (λ_=>rfl) (λB' hB'=>⟨.inl hB',by have:=(hr.dis id en B' hen hB').2;omega⟩) hother hs ?_
  ·rw[hset]at this;exact this
  ·rw[hset]
   simp only[RO]
   refine⟨h1,trivial,λi el hi=>?_,?_⟩
   ·by_cases hie:e=i
    ·subst hie
     rw[qn hel]at hi
     obtain rfl:=Option.some.inj hi
     rw[Qa8 (by omega),hlen]
    ·rw[qu hie]at hi
     exact h3 i el hi
   ·rw[hB]
    refine⟨by simpa using h5,h5',_,ty,fz,setRow_heap w B c _ ty fz h6,?_,?_,λi el k x hi hk=>?_⟩
    ·simp[hyl];omega
    ·intro k hk
     apply h8
     simp[hyl]at hk;omega
    ·have hsp:=λk=>Y0 (cs:=c.toList) (ys:=y.cells.toList) (j:=(en.base+e)*en.sz+j) (k:=k) (by rw[hyl];simp;omega)
     simp only[Array.getElem?_toList]at hsp
     first | rw[List.getElem?_toArray,hsp] | rw[hsp]
     by_cases hie:e=i
     ·subst hie
      rw[qn hel]at hi
      obtain rfl:=Option.some.inj hi
      rw[Qa9 (by omega)]at hk
      split at hk
      ·rename_i hkj
       rw[if_pos (by omega)]
       obtain⟨cv,h10,h11⟩:=h9 e cs k x he hk
       exact⟨cv,h10,RC.mono (λ_ h=>h) hJ (Ml.refl m) h11⟩
      ·rename_i hkj
       split at hk
       ·rename_i hk2
        rw[if_neg (by omega),if_pos (by rw[hyl];omega)]
        obtain⟨cv,h10,h11⟩:=hcy.get hk
        refine⟨cv,?_,RC.mono (λ_ h=>h) hJ (Ml.refl m) h11⟩
        rw[show (en.base+e)*en.sz+k-((en.base+e)*en.sz+j)=k-j by omega]
        simpa using h10
       ·rename_i hk2
        rw[if_neg (by omega),if_neg (by rw[hyl];omega)]
        obtain⟨cv,h10,h11⟩:=h9 e cs k x he hk
        exact⟨cv,h10,RC.mono (λ_ h=>h) hJ (Ml.refl m) h11⟩
     ·rw[qu hie]at hi
      have hkl:k<en.sz:=by
       have:=(q8.1 hk).1
       have:=h3 i el hi
       omega
      obtain⟨cv,h10,h11⟩:=h9 i el k x hi hk
      refine⟨cv,?_,RC.mono (λ_ h=>h) hJ (Ml.refl m) h11⟩
      split
      ·exact h10
      ·rename_i hq1
       split
       ·rename_i hq2
        exfalso
        rw[hyl]at hq2
        have hq3:(en.base+i)*en.sz+k=(en.base+e)*en.sz+((en.base+i)*en.sz+k-(en.base+e)*en.sz):=by omega
        have:=Q82 hkl (show (en.base+i)*en.sz+k-(en.base+e)*en.sz<en.sz by omega) hq3
        omega
       ·exact h10
 ·have:=Ev.upd (n:=n) (J:=J) (w:=w) (w':=w.setRow B (c.toList.take ((en.base+e)*en.sz+j)++y.cells.toList++c.toList.drop ((en.base+e)*en.sz+j+y.cells.toList.length)).toArray) en hen (Nat.le_refl _) (λ_=>rfl) (λB' hB'=>.inl hB') hother hs rfl rfl rfl (Nat.le_refl _)
  rw[hset]at this;exact this
theorem Wg (hr:RS J h m w) {sz:Nat} {els:List (List V)} (hsz:∀(i:Nat) (el:List V),els[i]?=some el->el.length=sz) {w':World} {c:Array Value} {ty:TypeId} {fz:Nat × Nat} {cap:Nat}
  (h1:w'.os=w.os) (h2:w'.tape=w.tape) (h3:w'.output=w.output) (hdr:w.drawn<=w'.drawn) (hw:∀k,k<w.heap.size->w'.heap[k]?=w.heap[k]?) (hs:w.heap.size<w'.heap.size)
  (hnew:w'.heap[w.heap.size]?=some (.cells c ty fz)) (hcs:c.size=cap*sz) (hcap:els.length<=cap) (hml:cap<=maxLen) (hfz:∀k,k<c.size->¬ (fz.1<=k/\k<fz.2))
  (hcell:∀(i:Nat) (el:List V) (j:Nat) (x:V),els[i]?=some el->el[j]?=some x->∃cv,c[i*sz+j]?=some cv/\RC J m w x cv) :
  RS J (h++[.arr 1 sz els]) (m++[⟨1,sz,some w.heap.size,0,cap⟩]) w'/\(∀n,Ev n J m w J (m++[⟨1,sz,some w.heap.size,0,cap⟩]) w')/\Ml m (m++[⟨1,sz,some w.heap.size,0,cap⟩]):=by
 refine⟨RS.push hr _ _ (λB hB=>?_) hw (by omega) ?_,λn=>Ev.push _ (λB hB=>?_) hw (by omega) h1 h2 h3 hdr,Ml.app _ _⟩
 ·simp at hB;omega
 ·simp only[RO]
  refine⟨trivial,trivial,hsz,hcap,by omega,c,ty,fz,hnew,by simpa using hcs,hfz,λi el j x hi hj=>?_⟩
  obtain⟨cv,h4,h5⟩:=hcell i el j x hi hj
  exact⟨cv,by simpa using h4,RC.mono (λ_ h=>h) (λk hk=>hw k (hr.jlt k hk)) (Ml.app _ _) h5⟩
 ·simp at hB;omega
theorem Ya (m:List Ent) (e:Ent):(m++[e])[m.length]?=some e:=by simp
theorem Wi (hr:RS J h m w) {cs:List V} {vs:Array Value} (hv:Pw (RC J m w) cs vs.toList) (T:TypeId) {x:Value} (hx:x.cells=vs) :
  Fine J m w (h++[.arr 1 cs.length [cs]]) (.p h.length 1 0 0) ((do pure (.value (<- Instr.box T x)):Sem Next).run P w):=by
 have hlen:vs.size=cs.length:=by simpa using hv.1.symm
 have hrun:(do pure (.value (<- Instr.box T x)):Sem Next).run P w=.ok (.value (.pointer (some ⟨w.heap.size,0,none⟩))) (w.alloc (.cells vs T)):=by
  simp[Instr.box,newVar,newRow,hx]
 rw[hrun]
 have:=Wg hr (sz:=cs.length) (els:=[cs]) (w':=w.alloc (.cells vs T)) (c:=vs) (ty:=T) (fz:=(0,0)) (cap:=1) (by intro i el hi;cases i<;>simp at hi;subst hi;rfl)
  rfl rfl rfl (by simp) (λk hk=>heap_alloc_old w _ hk) (by simp) (heap_alloc_new w _) (by omega) (by simp) (by simp[maxLen]) (by intro k _;simp)
  (by intro i el j x hi hj
      cases i<;>simp at hi
      subst hi
      obtain⟨cv,h1,h2⟩:=hv.get hj
      exact⟨cv,by simpa using h1,h2⟩)
 refine⟨_,_,J,_,.inl rfl,⟨rfl,?_⟩,this.1,this.2.1,this.2.2⟩
 refine⟨⟨1,cs.length,some w.heap.size,0,1⟩,by rw[<- hr.len];exact Ya _ _,by simp,λ_=>⟨w.heap.size,rfl,by simp⟩⟩
theorem Qjr (hr:RS J h m w) {X:V} {x:Value} (hx:RV J m w X x) (hok:X.okA=true) (T:TypeId) :
  Fine J m w (h++[.arr 1 X.cells.length [X.cells]]) (.p h.length 1 0 0) ((do pure (.value (<- Instr.box T x)):Sem Next).run P w) :=
 Wi hr (Wl hx hok) T rfl
def zc (P:Program) (T:TypeId):Option (List V):=(P.info? T).bind λi=>i.zero.bind λz=>z.cells.toList.mapM cvL
theorem Qgo {T:TypeId} {z:List V} (hz:zc P T=some z):∃v,(∀w,(zeroValue T).run P w=.ok v w)/\∀(J:Nat->Prop) m w,Pw (RC J m w) z v.cells.toList:=by
 unfold zc at hz
 simp only[qt]at hz
 obtain⟨i,hi,v,hv,hm⟩:=hz
 exact⟨v,λw=>by simp[zeroValue,typeInfo,hi,hv],λJ m w=>I9 hm⟩
theorem Qbj (hr:RS J h m w) {T:TypeId} {z:List V} (hz:zc P T=some z) :
  Fine J m w (h++[.arr 1 z.length [z]]) (.p h.length 1 0 0) ((do pure (.value (<- Instr.alloc T true (.tuple #[]))):Sem Next).run P w):=by
 obtain⟨v,hv,hp⟩:=Qgo hz
 have:=Wi (P:=P) hr (hp J m w) T rfl
 have e:(do pure (.value (<- Instr.alloc T true (.tuple #[]))):Sem Next).run P w=(do pure (.value (<- Instr.box T v)):Sem Next).run P w:=by
  simp[Instr.alloc,Instr.box,hv w,newVar,newRow]
 rw[e];exact this
end
end
end Go.Abs
