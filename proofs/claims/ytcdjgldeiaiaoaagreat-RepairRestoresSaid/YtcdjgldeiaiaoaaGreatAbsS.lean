/- Part of the library on which the proof stands: an abstract machine, its values and its soundness against the model; or what functions of the program do to such values. -/
import Derived.Test.YtcdjgldeiaiaoaaGreatAbsR
set_option linter.unusedVariables false
set_option linter.unusedSimpArgs false
namespace Go.Abs
open Go.RowKit
inductive Rr where
 | tmp (t:Nat)
 | cell (t:Nat) (n:Option Nat)
def Ih (P:Program) (fn:Func):Option (List Rr) :=
 fn.results.toList.mapM fun
  | .tmp t=>some (.tmp t)
  | .cell t T=>(Bt P T).map λn=>.cell t n
def Y7 (σ:St):Rr->Option V
 | .tmp t=>some (get t σ.env)
 | .cell t n=>(X5 σ.h (get t σ.env)).bind (J8 n)
def Jd (h:List O):V->Option V
 | .own id g off len=>match h[id]? with
   | some (.arr g' sz els)=>if g=g'/\off+len<=els.length/\((els.drop off).take len).all (·.all V.isD)=true then some (.l sz ((els.drop off).take len)) else none
   | _=>none
 | .b x=>some (.b x)
 | .i k n=>some (.i k n)
 | .s x=>some (.s x)
 | .nil=>some .nil
 | .l sz els=>some (.l sz els)
 | .any=>some .any
 | .np=>some .np
 | _=>none
def frz (h:List O):V->Option V
 | .a cs=>(cs.mapM (Jd h)).map .a
 | v=>Jd h v
def Yq (h:List O) (vs:List V):Option (List V):=vs.mapM (frz h)
def Y6:List V->V
 | [v]=>v
 | vs=>.t vs
def V.noT:V->Bool
 | .t _=>false
 | _=>true
def Qhn (rs:List Rr) (σ:St):Option V :=
 (rs.mapM (Y7 σ)).bind λvs=>(Yq σ.h vs).map Y6
def Z7 (k:Nat):List V->List (Nat × V)
 | []=>[]
 | v::r=>(k,v)::Z7 (k+1) r
def PureC (P:Program) (f:FuncId) (vs:List V) (R:V->Prop):Prop:=ACall P f vs [] (λr h'=>R r/\h'=[])
section
variable {P:Program} {J:Nat->Prop} {m:List Ent} {w:World} {h:List O}
def Js (m:List Ent) (k:Nat):Prop:=∃(id:Nat) (e:Ent),m[id]?=some e/\e.blk=some k
theorem Q6h (hr:RS J h m w) {v r:V} (hf:Jd h v=some r) {c:Value} (hv:RC J m w v c):RC (λk=>J k∨Js m k) [] w r c:=by
 have hsub:∀k,J k->(λk=>J k∨Js m k) k:=λk hk=>.inl hk
 cases v<;>simp only[Jd]at hf<;>try (simp at hf;done)
 case own id g off len =>
  split at hf
  case h_2=>simp at hf
  rename_i g' sz els ho
  split at hf
  case isFalse=>simp at hf
  rename_i hcond
  obtain⟨rfl,hle,hd⟩:=hcond
  obtain rfl:=Option.some.inj hf
  have he:Zg sz h (.own id g off len)=some ((els.drop off).take len):=by simp[Zg,ho,hle]
  obtain⟨a,cap,hx,h1,h2,h3,h4⟩:=Xm hr (Qe hv) he
  have hv':=Xr hr (Qe hv) ho
  obtain⟨en,hen,_,_,hsl,_⟩:=hv'
  subst hx
  cases a with
  | none =>
    obtain⟨h5,h6⟩:=h2 rfl
    have:(els.drop off).take len=[]:=qm h5
    rw[this];subst h6
    exact RD.l0 sz
  | some a =>
    obtain⟨cs,h5,h6⟩:=h4 a rfl
    have hdd:∀(i:Nat) (el:List V) (j:Nat) (x:V),((els.drop off).take len)[i]?=some el->el[j]?=some x->x.isD=true:=by
     intro i el j x q1 q2
     have q3:=qj.1 hd el (qb q1)
     exact qj.1 q3 x (qb q2)
    by_cases h0:((els.drop off).take len).length=0
    ·have:(els.drop off).take len=[]:=qm h0
     rw[this]
     exact RD.l1 sz a cap
    ·have hb:Js m a.block:=by
      unfold Ent.sl at hsl
      cases hbk:en.blk with
      | none =>
        rw[hbk]at hsl
        obtain⟨_,_,q3⟩:=hsl
        exfalso
        rcases q3 with q3 | ⟨_,q3⟩<;>simp at q3
        rw[qw,List.length_drop]at h0
        omega
      | some B =>
        rw[hbk]at hsl
        obtain⟨o,cc,q3,_⟩:=hsl
        simp only[Value.slice.injEq,Option.some.injEq]at q3
        exact⟨id,en,hen,by rw[hbk,q3.1]⟩
     exact RD.l sz _ a cap cs (.inr hb) h1 h3 h5 (λi el j v q1 q2=>(Wp (hdd i el j v q1 q2) (h6 i el j v q1 q2)).mono hsub (λ_ _=>rfl))
 all_goals
  obtain rfl:=Option.some.inj hf
  first
  | exact hv
  | exact(show RD J w _ c from hv).mono hsub (λ_ _=>rfl)
theorem I8 {f:V->Option V} {R R':V->Value->Prop} (hR:∀v r c,f v=some r->R v c->R' r c) {vs rs:List V} (hf:vs.mapM f=some rs) {cs:List Value} (hp:Pw R vs cs):Pw R' rs cs:=by
 obtain⟨h1,h2⟩:=Ja hf
 refine⟨by rw[h1,hp.1],λi r c hr hc=>?_⟩
 obtain⟨v,hv,hfv⟩:=h2 i r hr
 exact hR v r c hfv (hp.2 i v c hv hc)
theorem Q6f (hr:RS J h m w) {v r:V} (hf:frz h v=some r) {c:Value} (hv:RV J m w v c):RA (λk=>J k∨Js m k) [] w r c:=by
 cases v
 case a cs =>
  simp only[frz,qa]at hf
  obtain⟨rs,hrs,rfl⟩:=hf
  obtain⟨arr,rfl,hp⟩:=hv
  exact⟨arr,rfl,I8 (R':=RC (λk=>J k∨Js m k) [] w) (λv r c q1 q2=>Q6h hr q1 q2) hrs hp⟩
 case any=>simp[frz,Jd]at hf;subst hf;trivial
 case t=>simp[frz,Jd]at hf
 all_goals
  simp only[frz]at hf
  exact Qq (Q6h hr hf hv)
def rvS (tmps:Array Value):ResultVar->Sem Value
 | .tmp t=>pure (tmps.getD t undef)
 | .cell a t=>do loadVar t (<- asAddr (tmps.getD a undef))
theorem Qaf (fn:Func) (tmps:Array Value):results fn tmps=(do
  let vs <- fn.results.mapM (rvS tmps)
  pure (if h:vs.size=1 then vs[0] else .tuple vs)):=by
 unfold results
 congr 1
theorem W6 {N:Nat} {a:Act} {σ:St} (hr:RelF N J m (λt=>get t σ.env) σ.h a w) {fn:Func} {rs:List Rr} (hrs:Ih P fn=some rs) {vs:List V} (hvs:rs.mapM (Y7 σ)=some vs) :
  ∃cs:List Value,Pw (RV J m w) vs cs/\(results fn a.tmps).run P w=.ok (if h:cs.toArray.size=1 then cs.toArray[0] else .tuple cs.toArray) w:=by
 have key:∀(l:List ResultVar) (rs:List Rr) (vs:List V),l.mapM (fun | .tmp t=>some (Rr.tmp t) | .cell t T=>(Bt P T).map λn=>.cell t n)=some rs->rs.mapM (Y7 σ)=some vs ->
   ∃cs:List Value,Pw (RV J m w) vs cs/\(l.mapM (rvS a.tmps)).run P w=.ok cs w:=by
  intro l
  induction l with
  | nil =>
    intro rs vs h1 h2
    simp at h1;subst h1
    simp at h2;subst h2
    exact⟨[],Pw.nil,by simp⟩
  | cons q l ih =>
    intro rs vs h1 h2
    simp only[List.mapM_cons,Option.bind_eq_bind,qt,Option.pure_def,Option.some.injEq]at h1
    obtain⟨r0,hr0,rs',hrs',rfl⟩:=h1
    simp only[List.mapM_cons,Option.bind_eq_bind,qt,Option.pure_def,Option.some.injEq]at h2
    obtain⟨v0,hv0,vs',hvs',rfl⟩:=h2
    obtain⟨cs,hp,hrun⟩:=ih rs' vs' hrs' hvs'
    cases q with
    | tmp t =>
      simp only[Option.some.injEq]at hr0
      subst hr0
      simp only[Y7,Option.some.injEq]at hv0
      subst hv0
      refine⟨a.tmps.getD t undef::cs,Pw.cons (hr.tmps t) hp,?_⟩
      simp only[List.mapM_cons,rvS,Sem.run_bind,Sem.run_pure,Result.andThen_ok,hrun]
    | cell t T =>
      simp only[qa]at hr0
      obtain⟨n,hT,rfl⟩:=hr0
      simp only[Y7]at hv0
      have hf:=Qdb (P:=P) hT hr.rs (hr.tmps t) hv0
      simp only[qt]at hv0
      obtain⟨cells,hcells,hpick⟩:=hv0
      obtain⟨ad,had,ws,hw1,hw2⟩:=Q3a hr.rs (hr.tmps t) hcells
      have hpo:=Q1z hpick hw1
      have hload:∃c,(loadVar T ad).run P w=.ok c w/\RV J m w v0 c:=by
       cases n with
       | none =>
         obtain⟨c,q1,q2⟩:=hpo
         have q3:=hw2 0 c q1
         rw[Addr.add_zero']at q3
         exact⟨c,by simp only[loadVar,Sem.run_bind,J5 hT,Result.andThen_ok,Bool.false_eq_true,if_false,run_load,q3],q2⟩
       | some k =>
         obtain⟨q1,q2⟩:=hpo
         have hl:=run_loadCells_list (P:=P) w ad (ws.take k) (λj v hj=>hw2 j v (by rw[jb]at hj;split at hj<;>simp_all))
         have hlen:(ws.take k).length=k:=by simp;omega
         rw[hlen]at hl
         exact⟨_,by simp only[loadVar,Sem.run_bind,(Zt hT w).1,Result.andThen_ok,if_true,(Zt hT w).2,hl,Sem.run_pure],q2⟩
      obtain⟨c,hc1,hc2⟩:=hload
      refine⟨c::cs,Pw.cons hc2 hp,?_⟩
      simp only[List.mapM_cons,rvS,Sem.run_bind,had,asAddr,Sem.run_pure,Result.andThen_ok,hc1,hrun]
 obtain⟨cs,h1,h2⟩:=key fn.results.toList rs vs hrs hvs
 refine⟨cs,h1,?_⟩
 rw[Qaf,Array.mapM_eq_mapM_toList]
 simp only[Sem.run_bind,Sem.run_map,h2,Result.andThen_ok,Sem.run_pure]
theorem Yv:∀(vs:List V) (k t:Nat),get t (Z7 k vs)=if k<=t then (vs[t-k]?).getD .any else .any
 | [],k,t=>by simp[Z7,get]
 | v::r,k,t=>by
   simp only[Z7,get]
   split
   ·rename_i h;subst h;simp
   ·rename_i h
    rw[Yv r (k+1) t]
    by_cases h1:k+1<=t
    ·rw[if_pos h1,if_pos (by omega),show t-k=(t-(k+1))+1 by omega]
     simp
    ·rw[if_neg h1]
     by_cases h2:k<=t
     ·omega
     ·rw[if_neg h2]
theorem Qai (hmix:P.follows .mixedOrders=true) {f:FuncId} {fn:Func} {code:Code} {c:C} {rs:List Rr} (hf:P.funcs[f]?=some fn) (hb:fn.body=some code) (hc:Yg P fn.ntmps code=some c) (hrs:Ih P fn=some rs)
  {vs:List V} (hn:vs.length<=fn.ntmps) {R:V->Prop} (hbody:AS P 0 c ⟨Z7 0 vs,[]⟩ (λx σ'=>(match x with | .e _=>False | _=>True)/\∃r,Qhn rs σ'=some r/\R r)):PureC P f vs R:=by
 intro J m w cargs hr hp
 have hm:m=[]:=qm (by rw[hr.len];rfl)
 subst hm
 refine calls_of_wp hf hb ?_
 have hcl:cargs.length<=fn.ntmps:=by rw[<- hp.1];exact hn
 have hrel:RelF fn.ntmps J [] (λt=>get t (Z7 0 vs)) [] { tmps:=cargs.toArray++Array.replicate (fn.ntmps-cargs.toArray.size) undef,defers:=[] } w:=by
  refine⟨λt=>?_,hr,rfl,by simp;omega⟩
  simp only
  rw[Yv,if_pos (Nat.zero_le _),Nat.sub_zero]
  cases hv:vs[t]? with
  | none=>trivial
  | some v =>
    obtain⟨cv,h1,h2⟩:=hp.get hv
    have hlt:=(q8.1 h1).1
    have:(cargs.toArray++Array.replicate (fn.ntmps-cargs.toArray.size) undef).getD t undef=cv:=by
     rw[Array.getD_eq_getD_getElem?,jk (by simpa using hlt)]
     simp[h1]
    rw[this]
    exact h2
 refine wp_mono (Q9x hmix code c hc _ _ hbody J [] _ w hrel) ?_
 rintro e a' w' ⟨x,σ',J',m',hx,⟨hx2,r,hres,hR⟩,hrel',hev⟩
 have hret:a'.defers=[]/\∃v,(results fn a'.tmps).run P w'=.ok v w'/\∃v0 r h' J'' m'',Ending.returned v=.returned v0/\(R r/\h'=[])/\RV J'' m'' w' r v0/\RS J'' h' m'' w'/\(∀n,Ev n J [] w J'' m'' w')/\Ml [] m'':=by
  refine⟨hrel'.defers,?_⟩
  simp only[Qhn,qt,qa]at hres
  obtain⟨us,hus,fs,hfs,rfl⟩:=hres
  obtain⟨cs,hcs,hrun⟩:=W6 hrel' hrs hus
  refine⟨_,hrun,_,Y6 fs,[],λk=>J' k∨Js m' k,[],rfl,⟨hR,rfl⟩,?_,?_,λn=>?_,Ml.nil _⟩
  ·have hpa:Pw (RA (λk=>J' k∨Js m' k) [] w') fs cs:=I8 (R:=RV J' m' w') (R':=RA (λk=>J' k∨Js m' k) [] w') (λv r c q1 q2=>Q6f hrel'.rs q1 q2) hfs hcs
   have hl:=hpa.1
   match fs,cs,hl,hpa with
   | [],[],_,hpa=>exact⟨#[],rfl,Pw.nil⟩
   | [v],[c],_,hpa =>
     simp only[Y6]
     have:(if h:([c]:List Value).toArray.size=1 then ([c]:List Value).toArray[0] else Value.tuple [c].toArray)=c:=by simp
     rw[this]
     exact Qw hpa.head
   | v1::v2::vr,c1::c2::cr,_,hpa =>
     simp only[Y6]
     rw[dif_neg (by simp)]
     exact⟨_,rfl,by simpa using hpa⟩
  ·refine⟨rfl,λk hk=>?_,by simp,by simp,by simp⟩
   rcases hk with hk | ⟨id,e,h1,h2⟩
   ·exact hrel'.rs.jlt k hk
   ·exact(hrel'.rs.dis id e k h1 h2).2
  ·refine⟨hev.os,hev.tape,hev.output,hev.drawn,hev.size,hev.keep,by simp,λk hk=>.inl (hev.sub k hk),λk hk=>?_,by simp⟩
   rcases hk with hk | ⟨id,e,h1,h2⟩
   ·exact hev.jnew k hk
   ·rcases hev.fresh id e k h1 h2 with h3 | h3
    ·exact .inr (.inl h3)
    ·exact .inr (.inr h3)
 cases e<;>cases x<;>simp only at hx<;>(try exact hx.elim)<;>(try exact hx2.elim)
 ·exact hret
 ·exact hret
theorem PureC.lift {f:FuncId} {vs:List V} {R:V->Prop} (hp:PureC P f vs R) (hcl:vs.all (V.cl 0)=true) (h:List O):ACall P f vs h (λr h'=>R r/\h'=h):=by
 intro J m w cargs hr hpw
 have hpw0:Pw (RV J [] w) vs cargs:=⟨hpw.1,λi v c hv hc=>by
  have:=Q72 (n:=0) (qj.1 hcl v (qb hv)) (hpw.2 i v c hv hc)
  simpa using this⟩
 refine (hp J [] w cargs ⟨rfl,hr.jlt,by simp,by simp,by simp⟩ hpw0).mono ?_
 rintro e w' ⟨v,r,h',J',m',rfl,⟨hR,rfl⟩,hv,hrs,hev,_⟩
 have hm':m'=[]:=qm (by rw[hrs.len];rfl)
 subst hm'
 have hkeep:∀k,k<w.heap.size->w'.heap[k]?=w.heap[k]?:=λk hk=>(hev 0).keep k hk (by simp)
 have hjn:∀k,J' k->J k∨w.heap.size<=k:=λk hk=>by
  rcases (hev 0).jnew k hk with h1 | h1 | ⟨_,_,h1,_⟩
  ·exact .inl h1
  ·exact .inr h1
  ·simp at h1
 exact⟨v,r,h,J',m,rfl,⟨hR,rfl⟩,RV.mono (λ_ h=>h) (λ_ _=>rfl) (Ml.nil m) hv,RS.same hr (hev 0).sub hjn hrs.jlt hkeep (hev 0).size,
  λn=>Ev.same (hev 0).sub hjn hkeep (hev 0).size (hev 0).os (hev 0).tape (hev 0).output (hev 0).drawn,Ml.refl m⟩
def V.scal1:V->Bool
 | .b _ | .i _ _ | .s _=>true
 | _=>false
def V.scal:V->Bool
 | .a cs=>cs.all V.scal1
 | .t vs=>vs.all fun | .a cs=>cs.all V.scal1 | v=>v.scal1
 | v=>v.scal1
theorem Es {J':Nat->Prop} {m':List Ent} {w':World} {v:V} {c:Value} (hs:v.scal1=true) (h:RC J m w v c):RC J' m' w' v c:=by
 cases v<;>simp[V.scal1]at hs
 case b x=>have:=Y4 (Qe h);subst this;exact Qn (.b x)
 case i k n=>have:=Z5 (Qe h);subst this;exact Qn (.i k n)
 case s x=>have:=X1 (Qe h);subst this;exact Qn (.s x)
theorem Q81 {J':Nat->Prop} {m':List Ent} {w':World} {v:V} {c:Value} (hs:(match v with | .a cs=>cs.all V.scal1 | v=>v.scal1)=true) (h:RA J m w v c):RA J' m' w' v c:=by
 cases v
 case a cs =>
  obtain⟨arr,rfl,hp⟩:=h
  refine⟨arr,rfl,hp.1,λi v c hv hc=>Es (qj.1 hs v (qb hv)) (hp.2 i v c hv hc)⟩
 all_goals first
  | (simp[V.scal1]at hs;done)
  | exact Qq (Es (J:=J) (m:=m) (w:=w) hs h)
theorem scal_ok {J':Nat->Prop} {m':List Ent} {w':World} {v:V} {c:Value} (hs:v.scal=true) (h:RV J m w v c):RV J' m' w' v c:=by
 cases v
 case t vs =>
  obtain⟨arr,rfl,hp⟩:=h
  refine⟨arr,rfl,hp.1,λi v c hv hc=>Q81 (qj.1 hs v (qb hv)) (hp.2 i v c hv hc)⟩
 all_goals exact Qw (Q81 (J:=J) (m:=m) (w:=w) hs h)
theorem PureC.lend {f:FuncId} {vs us:List V} {R:V->Prop} {h:List O} (hu:Yq h us=some vs) (hp:PureC P f vs R) (hsc:∀r,R r->r.scal=true):ACall P f us h (λr h'=>R r/\h'=h):=by
 intro J m w cargs hr hpw
 have hpw0:Pw (RV (λk=>J k∨Js m k) [] w) vs cargs:=I8 (R:=RV J m w) (R':=RV (λk=>J k∨Js m k) [] w) (λv r c q1 q2=>Qw (Q6f hr q1 q2)) hu hpw
 refine (hp (λk=>J k∨Js m k) [] w cargs ⟨rfl,λk hk=>?_,by simp,by simp,by simp⟩ hpw0).mono ?_
 ·rcases hk with hk | ⟨id,e,h1,h2⟩
  ·exact hr.jlt k hk
  ·exact(hr.dis id e k h1 h2).2
 rintro e w' ⟨v,r,h',J',m',rfl,⟨hR,rfl⟩,hv,hrs,hev,_⟩
 have hkeep:∀k,k<w.heap.size->w'.heap[k]?=w.heap[k]?:=λk hk=>(hev 0).keep k hk (by simp)
 exact⟨v,r,h,J,m,rfl,⟨hR,rfl⟩,scal_ok (hsc r hR) hv,RS.same hr (λ_ h=>h) (λ_ h=>.inl h) (λk hk=>Nat.lt_of_lt_of_le (hr.jlt k hk) (hev 0).size) hkeep (hev 0).size,
  λn=>Ev.same (λ_ h=>h) (λ_ h=>.inl h) hkeep (hev 0).size (hev 0).os (hev 0).tape (hev 0).output (hev 0).drawn,Ml.refl m⟩
theorem PureC.is {f:FuncId} {vs:List V} {r:V} (hp:PureC P f vs (·=r)) (hcl:vs.all (V.cl 0)=true):CallIs P f vs r:=λh=>hp.lift hcl h
end
end Go.Abs
