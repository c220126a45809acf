/- Part of the library on which the proof stands: an abstract machine, its values and its soundness against the model; or what functions of the program do to such values. -/
import Derived.Test.YtnaehggpjfdenaaGreatAbsW
import Derived.Lib.SlicesCompact
set_option linter.unusedVariables false
set_option linter.unusedSimpArgs false
namespace Go.Abs
open Go.RowKit
def Up (h:List O):V->Option V
 | .own id g off len=>Yx h (.own id g off len)
 | v=>bif v.isD then some v else none
def Q8g (h:List O):V->Option V
 | .own id g off len=>match h[id]? with
   | some (.arr g' sz els)=>if g=g'/\off+len<=els.length then (((els.drop off).take len).mapM λ(el:List V)=>List.mapM (Up h) el).map (V.l sz) else none
   | _=>none
 | v=>frz h v
def Qll (rs:List Rr) (σ:St):Option V :=
 (rs.mapM (Yj σ)).bind λvs=>(vs.mapM (Q8g σ.h)).map Y8
def Qcl (rs:List Rr) (R:V->Prop) (x:X) (σ:St):Prop :=
 match x with
 | .e _=>False
 | _=>∃r,Qll rs σ=some r/\R r
section
variable {P:Program} {J:Nat->Prop} {m:List Ent} {w:World} {h:List O}
theorem frzD_ok (hr:RS J h m w) {v r:V} (hf:Up h v=some r) {c:Value} (hv:RC J m w v c):RD (λk=>J k∨K3 m k) w r c:=by
 have hsub:∀k,J k->(λk=>J k∨K3 m k) k:=λk hk=>.inl hk
 cases v
 case own id g off len =>
  simp only[Up]at hf
  have h1:=Q2f hr hf hv
  simp only[Yx]at hf
  split at hf
  case h_2=>simp at hf
  split at hf
  case isFalse=>simp at hf
  obtain rfl:=Option.some.inj hf
  exact h1
 all_goals
  simp only[Up,V.isD,cond_true,cond_false,Option.some.injEq,reduceCtorEq]at hf
  try subst hf
  try exact(show RD J w _ c from hv).mono hsub (λ_ _=>rfl)
theorem Q8f (hr:RS J h m w) {v r:V} (hf:Q8g h v=some r) {c:Value} (hv:RV J m w v c):RA (λk=>J k∨K3 m k) [] w r c:=by
 cases v
 case own id g off len =>
  have hv:RC J m w (.own id g off len) c:=hv
  simp only[Q8g]at hf
  split at hf
  case h_2=>simp at hf
  rename_i g' sz els ho
  split at hf
  case isFalse=>simp at hf
  rename_i hcond
  obtain⟨rfl,hle⟩:=hcond
  rw[qd]at hf
  obtain⟨els',hels',rfl⟩:=hf
  have he:Zi sz h (.own id g off len)=some ((els.drop off).take len):=by simp[Zi,ho,hle]
  obtain⟨a,cap,hx,h1,h2,h3,h4⟩:=Xi hr (Qe hv) he
  have hv':=Xt hr (Qe hv) ho
  obtain⟨en,hen,_,_,hsl,_⟩:=hv'
  obtain⟨hlen,hget⟩:=Ji hels'
  subst hx
  refine Qv ?_
  cases a with
  | none =>
    obtain⟨h5,h6⟩:=h2 rfl
    have:els'=[]:=qn (by rw[hlen];exact h5)
    subst h6
    rw[this,h5]
    exact RD.l0 sz
  | some a =>
    obtain⟨cs,h5,h6⟩:=h4 a rfl
    by_cases h0:((els.drop off).take len).length=0
    ·have:els'=[]:=qn (by rw[hlen];exact h0)
     rw[this]
     have h7:((els.drop off).take len)=[]:=qn h0
     rw[h7]
     exact RD.l1 sz a cap
    ·have hb:K3 m a.block:=by
      unfold Ent.sl at hsl
      cases hbk:en.blk with
      | none =>
        rw[hbk]at hsl
        obtain⟨_,_,q3⟩:=hsl
        exfalso
        rcases q3 with q3 | ⟨_,q3⟩<;>simp at q3
        rw[qx,List.length_drop]at h0
        omega
      | some B =>
        rw[hbk]at hsl
        obtain⟨o,cc,q3,_⟩:=hsl
        simp only[Value.slice.injEq,Option.some.injEq]at q3
        exact⟨id,en,hen,by rw[hbk,q3.1]⟩
     rw[<- hlen]
     refine RD.l sz els' a cap cs (.inr hb) (by rw[hlen];exact h1) (λi el hel=>?_) (λi j hi hj=>h5 i j (by rw[<- hlen];exact hi) hj) (λi el j v q1 q2=>?_)
     ·obtain⟨el0,q3,q4⟩:=hget i el hel
      rw[(Ji q4).1]
      exact h3 i el0 q3
     ·obtain⟨el0,q3,q4⟩:=hget i el q1
      obtain⟨x0,q5,q6⟩:=(Ji q4).2 j v q2
      exact frzD_ok hr q6 (h6 i el0 j x0 q3 q5)
 all_goals
  simp only[Q8g]at hf
  exact Qni hr hf hv
theorem Qav (hmix:P.follows .mixedOrders=true) {f:FuncId} {fn:Func} {code:Code} {c:C} {rs:List Rr} (hf:P.funcs[f]?=some fn) (hb:fn.body=some code) (hc:Y7 P fn.ntmps code=some c) (hrs:U7 P fn=some rs)
  {vs:List V} (hn:vs.length<=fn.ntmps) {R:V->Prop} (hbody:AS P 0 c ⟨Z1 0 vs,[]⟩ (λx σ'=>(match x with | .e _=>False | _=>True)/\∃r,Qll rs σ'=some r/\R r)):PureC P f vs R:=by
 intro J m w cargs hr hp
 have hm:m=[]:=qn (by rw[hr.len];rfl)
 subst hm
 refine calls_of_wp hf hb ?_
 have hcl:cargs.length<=fn.ntmps:=by rw[<- hp.1];exact hn
 have hrel:RelF fn.ntmps J [] (λt=>get t (Z1 0 vs)) [] { tmps:=cargs.toArray++Array.replicate (fn.ntmps-cargs.toArray.size) undef,defers:=[] } w:=by
  refine⟨λt=>?_,hr,rfl,by simp;omega⟩
  simp only
  rw[Y6,if_pos (Nat.zero_le _),Nat.sub_zero]
  cases hv:vs[t]? with
  | none=>trivial
  | some v =>
    obtain⟨cv,h1,h2⟩:=hp.get hv
    have hlt:=(qa.1 h1).1
    have:(cargs.toArray++Array.replicate (fn.ntmps-cargs.toArray.size) undef).getD t undef=cv:=by
     rw[Array.getD_eq_getD_getElem?,jp (by simpa using hlt)]
     simp[h1]
    rw[this]
    exact h2
 refine wp_mono (Q75 hmix code c hc _ _ hbody J [] _ w hrel) ?_
 rintro e a' w' ⟨x,σ',J',m',hx,⟨hx2,r,hres,hR⟩,hrel',hev⟩
 have hret:a'.defers=[]/\∃v,(results fn a'.tmps).run P w'=.ok v w'/\∃v0 r h' J'' m'',Ending.returned v=.returned v0/\(R r/\h'=[])/\RV J'' m'' w' r v0/\RS J'' h' m'' w'/\(∀n,Ev n J [] w J'' m'' w')/\Ml [] m'':=by
  refine⟨hrel'.defers,?_⟩
  simp only[Qll,qu,qd]at hres
  obtain⟨us,hus,fs,hfs,rfl⟩:=hres
  obtain⟨cs,hcs,hrun⟩:=K9 hrel' hrs hus
  refine⟨_,hrun,_,Y8 fs,[],λk=>J' k∨K3 m' k,[],rfl,⟨hR,rfl⟩,?_,?_,λn=>?_,Ml.nil _⟩
  ·have hpa:Pw (RA (λk=>J' k∨K3 m' k) [] w') fs cs:=Ir (R:=RV J' m' w') (R':=RA (λk=>J' k∨K3 m' k) [] w') (λv r c q1 q2=>Q8f hrel'.rs q1 q2) hfs hcs
   have hl:=hpa.1
   match fs,cs,hl,hpa with
   | [],[],_,hpa=>exact⟨#[],rfl,Pw.nil⟩
   | [v],[c],_,hpa =>
     simp only[Y8]
     have:(if h:([c]:List Value).toArray.size=1 then ([c]:List Value).toArray[0] else Value.tuple [c].toArray)=c:=by simp
     rw[this]
     exact Z5 hpa.head
   | v1::v2::vr,c1::c2::cr,_,hpa =>
     simp only[Y8]
     rw[dif_neg (by simp)]
     exact⟨_,rfl,by simpa using hpa⟩
  ·refine⟨rfl,λk hk=>?_,by simp,by simp,by simp⟩
   rcases hk with hk | ⟨id,e,h1,h2⟩
   ·exact hrel'.rs.jlt k hk
   ·exact(hrel'.rs.dis id e k h1 h2).2
  ·refine⟨hev.os,hev.tape,hev.output,hev.drawn,hev.size,hev.keep,by simp,λk hk=>.inl (hev.sub k hk),λk hk=>?_,by simp⟩
   rcases hk with hk | ⟨id,e,h1,h2⟩
   ·exact hev.jnew k hk
   ·rcases hev.fresh id e k h1 h2 with h3 | h3
    ·exact .inr (.inl h3)
    ·exact .inr (.inr h3)
 cases e<;>cases x<;>simp only at hx<;>(try exact hx.elim)<;>(try exact hx2.elim)
 ·exact hret
 ·exact hret
theorem Qat {P:Program} (hmix:P.follows .mixedOrders=true) {f:FuncId} {c:C} {rs:List Rr} {n:Nat} (hf:Q9 P f c rs n) {vs:List V} (hn:vs.length<=n) {R:V->Prop}
  (hb:AS P 0 c ⟨Z1 0 vs,[]⟩ (Qcl rs R)):PureC P f vs R:=by
 obtain⟨fn,code,h1,h2,h3,h4,rfl⟩:=hf
 refine Qav hmix h1 h2 h3 h4 hn ?_
 refine (congrArg (AS P 0 c ⟨Z1 0 vs,[]⟩) (funext λx=>funext λσ=>propext ?_)).mpr hb
 cases x<;>simp[Qcl]
@[congr] theorem DoneF_congr {rs:List Rr} {R:V->Prop} {x x':X} {σ σ':St} (hx:x=x') (hh:σ=σ'):Qcl rs R x σ=Qcl rs R x' σ':=by rw[hx,hh]
theorem Q9m (rs:List Rr) (R:V->Prop) {σ:St}:Qcl rs R .r σ=∃r,Qll rs σ=some r/\R r:=Rfl rfl
attribute [go_sem]  Q9m  Qll Q8g Up
end
end Go.Abs
namespace Go.Abs
open Go.RowKit
def Qnk (h:List O):V->Option V
 | .own id g off len=>Q8g h (.own id g off len)
 | v=>Yx h v
def Qnj (h:List O):V->Option V
 | .a cs=>(cs.mapM (Qnk h)).map .a
 | v=>Q8g h v
def Qlk (rs:List Rr) (σ:St):Option V :=
 (rs.mapM (Yj σ)).bind λvs=>(vs.mapM (Qnj σ.h)).map Y8
def Qck (rs:List Rr) (R:V->Prop) (x:X) (σ:St):Prop :=
 match x with
 | .e _=>False
 | _=>∃r,Qlk rs σ=some r/\R r
section
variable {P:Program} {J:Nat->Prop} {m:List Ent} {w:World} {h:List O}
theorem frzM_ok (hr:RS J h m w) {v r:V} (hf:Qnk h v=some r) {c:Value} (hv:RC J m w v c):RC (λk=>J k∨K3 m k) [] w r c:=by
 cases v
 case own id g off len =>
  have h1:=Q8f hr (show Q8g h (.own id g off len)=some r from hf) (Qe hv)
  simp only[Qnk,Q8g]at hf
  split at hf
  case h_2=>simp at hf
  split at hf
  case isFalse=>simp at hf
  rw[qd]at hf
  obtain⟨els',_,rfl⟩:=hf
  exact h1
 all_goals
  simp only[Qnk]at hf
  exact Q2f hr hf hv
theorem frzP_ok (hr:RS J h m w) {v r:V} (hf:Qnj h v=some r) {c:Value} (hv:RV J m w v c):RA (λk=>J k∨K3 m k) [] w r c:=by
 cases v
 case a cs =>
  simp only[Qnj,qd]at hf
  obtain⟨rs,hrs,rfl⟩:=hf
  obtain⟨arr,rfl,hp⟩:=hv
  exact⟨arr,rfl,Ir (R':=RC (λk=>J k∨K3 m k) [] w) (λv r c q1 q2=>frzM_ok hr q1 q2) hrs hp⟩
 all_goals
  simp only[Qnj]at hf
  exact Q8f hr hf hv
theorem Qau (hmix:P.follows .mixedOrders=true) {f:FuncId} {fn:Func} {code:Code} {c:C} {rs:List Rr} (hf:P.funcs[f]?=some fn) (hb:fn.body=some code) (hc:Y7 P fn.ntmps code=some c) (hrs:U7 P fn=some rs)
  {vs:List V} (hn:vs.length<=fn.ntmps) {R:V->Prop} (hbody:AS P 0 c ⟨Z1 0 vs,[]⟩ (λx σ'=>(match x with | .e _=>False | _=>True)/\∃r,Qlk rs σ'=some r/\R r)):PureC P f vs R:=by
 intro J m w cargs hr hp
 have hm:m=[]:=qn (by rw[hr.len];rfl)
 subst hm
 refine calls_of_wp hf hb ?_
 have hcl:cargs.length<=fn.ntmps:=by rw[<- hp.1];exact hn
 have hrel:RelF fn.ntmps J [] (λt=>get t (Z1 0 vs)) [] { tmps:=cargs.toArray++Array.replicate (fn.ntmps-cargs.toArray.size) undef,defers:=[] } w:=by
  refine⟨λt=>?_,hr,rfl,by simp;omega⟩
  simp only
  rw[Y6,if_pos (Nat.zero_le _),Nat.sub_zero]
  cases hv:vs[t]? with
  | none=>trivial
  | some v =>
    obtain⟨cv,h1,h2⟩:=hp.get hv
    have hlt:=(qa.1 h1).1
    have:(cargs.toArray++Array.replicate (fn.ntmps-cargs.toArray.size) undef).getD t undef=cv:=by
     rw[Array.getD_eq_getD_getElem?,jp (by simpa using hlt)]
     simp[h1]
    rw[this]
    exact h2
 refine wp_mono (Q75 hmix code c hc _ _ hbody J [] _ w hrel) ?_
 rintro e a' w' ⟨x,σ',J',m',hx,⟨hx2,r,hres,hR⟩,hrel',hev⟩
 have hret:a'.defers=[]/\∃v,(results fn a'.tmps).run P w'=.ok v w'/\∃v0 r h' J'' m'',Ending.returned v=.returned v0/\(R r/\h'=[])/\RV J'' m'' w' r v0/\RS J'' h' m'' w'/\(∀n,Ev n J [] w J'' m'' w')/\Ml [] m'':=by
  refine⟨hrel'.defers,?_⟩
  simp only[Qlk,qu,qd]at hres
  obtain⟨us,hus,fs,hfs,rfl⟩:=hres
  obtain⟨cs,hcs,hrun⟩:=K9 hrel' hrs hus
  refine⟨_,hrun,_,Y8 fs,[],λk=>J' k∨K3 m' k,[],rfl,⟨hR,rfl⟩,?_,?_,λn=>?_,Ml.nil _⟩
  ·have hpa:Pw (RA (λk=>J' k∨K3 m' k) [] w') fs cs:=Ir (R:=RV J' m' w') (R':=RA (λk=>J' k∨K3 m' k) [] w') (λv r c q1 q2=>frzP_ok hrel'.rs q1 q2) hfs hcs
   have hl:=hpa.1
   match fs,cs,hl,hpa with
   | [],[],_,hpa=>exact⟨#[],rfl,Pw.nil⟩
   | [v],[c],_,hpa =>
     simp only[Y8]
     have:(if h:([c]:List Value).toArray.size=1 then ([c]:List Value).toArray[0] else Value.tuple [c].toArray)=c:=by simp
     rw[this]
     exact Z5 hpa.head
   | v1::v2::vr,c1::c2::cr,_,hpa =>
     simp only[Y8]
     rw[dif_neg (by simp)]
     exact⟨_,rfl,by simpa using hpa⟩
  ·refine⟨rfl,λk hk=>?_,by simp,by simp,by simp⟩
   rcases hk with hk | ⟨id,e,h1,h2⟩
   ·exact hrel'.rs.jlt k hk
   ·exact(hrel'.rs.dis id e k h1 h2).2
  ·refine⟨hev.os,hev.tape,hev.output,hev.drawn,hev.size,hev.keep,by simp,λk hk=>.inl (hev.sub k hk),λk hk=>?_,by simp⟩
   rcases hk with hk | ⟨id,e,h1,h2⟩
   ·exact hev.jnew k hk
   ·rcases hev.fresh id e k h1 h2 with h3 | h3
    ·exact .inr (.inl h3)
    ·exact .inr (.inr h3)
 cases e<;>cases x<;>simp only at hx<;>(try exact hx.elim)<;>(try exact hx2.elim)
 ·exact hret
 ·exact hret
theorem Qlo {P:Program} (hmix:P.follows .mixedOrders=true) {f:FuncId} {c:C} {rs:List Rr} {n:Nat} (hf:Q9 P f c rs n) {vs:List V} (hn:vs.length<=n) {R:V->Prop}
  (hb:AS P 0 c ⟨Z1 0 vs,[]⟩ (Qck rs R)):PureC P f vs R:=by
 obtain⟨fn,code,h1,h2,h3,h4,rfl⟩:=hf
 refine Qau hmix h1 h2 h3 h4 hn ?_
 refine (congrArg (AS P 0 c ⟨Z1 0 vs,[]⟩) (funext λx=>funext λσ=>propext ?_)).mpr hb
 cases x<;>simp[Qck]
@[congr] theorem DoneP_congr {rs:List Rr} {R:V->Prop} {x x':X} {σ σ':St} (hx:x=x') (hh:σ=σ'):Qck rs R x σ=Qck rs R x' σ':=by rw[hx,hh]
theorem DoneP_r (rs:List Rr) (R:V->Prop) {σ:St}:Qck rs R .r σ=∃r,Qlk rs σ=some r/\R r:=Rfl rfl
attribute [go_sem]  DoneP_r  Qlk Qnj Qnk
end
end Go.Abs
namespace Go.Abs
open Go.Lib
theorem Q12 (xs:List Int) (hs:xs.Pairwise λx y=>x<=y):∀m,m<=xs.length->(compactUpTo xs.toArray m).Pairwise (λx y=>x<y)/\(∀x∈compactUpTo xs.toArray m,∃j,j<m/\x=xs.toArray[j]!) /\
  (∀j,j<m->xs.toArray[j]! ∈ compactUpTo xs.toArray m)/\(compactUpTo xs.toArray m).length<=m
 | 0,_=>⟨by simp[compactUpTo],by simp[compactUpTo],by omega,by simp[compactUpTo]⟩
 | m+1,hm=>by
   obtain⟨h1,h2,h3,h4⟩:=Q12 xs hs m (by omega)
   have hget:∀j (h:j<xs.length),xs.toArray[j]! = xs[j]:=λj h=>by
    rw[getElem!_pos _ _ (by simpa using h)];simp
   have hmono:∀i j,i<=j->j<xs.length->xs.toArray[i]! <= xs.toArray[j]!:=λi j hij hj=>by
    rw[hget i (by omega),hget j hj]
    by_cases he:i=j
    ·subst he;exact Int.le_refl _
    ·exact j6.1 hs i j (by omega) hj (by omega)
   rw[compactUpTo_succ]
   by_cases hk:keeps xs.toArray m=true
   ·rw[if_pos hk]
    have hlt:∀x∈compactUpTo xs.toArray m,x<xs.toArray[m]!:=λx hx=>by
     obtain⟨j,hj,rfl⟩:=h2 x hx
     have hne:xs.toArray[m]! ≠ xs.toArray[m-1]!:=by
      unfold keeps at hk
      simp only[decide_eq_true_eq]at hk
      rcases hk with hk | hk
      ·omega
      ·exact hk
     have a1:=hmono j (m-1) (by omega) (by omega)
     have a2:=hmono (m-1) m (by omega) (by omega)
     omega
    refine⟨?_,λx hx=>?_,λj hj=>?_,by simp;omega⟩
    ·rw[List.pairwise_append]
     exact⟨h1,by simp,λx hx y hy=>by rw[qp.1 hy];exact hlt x hx⟩
    ·rcases qi.1 hx with hx | hx
     ·obtain⟨j,hj,e⟩:=h2 x hx;exact⟨j,by omega,e⟩
     ·exact⟨m,by omega,qp.1 hx⟩
    ·by_cases he:j=m
     ·subst he;simp
     ·exact qi.2 (.inl (h3 j (by omega)))
   ·rw[if_neg hk,List.append_nil]
    have he:m≠0/\xs.toArray[m]! = xs.toArray[m-1]!:=by
     unfold keeps at hk
     simp only[decide_eq_true_eq,not_or,Decidable.not_not]at hk
     exact hk
    refine⟨h1,λx hx=>?_,λj hj=>?_,by omega⟩
    ·obtain⟨j,hj,e⟩:=h2 x hx;exact⟨j,by omega,e⟩
    ·by_cases hj2:j=m
     ·subst hj2
      rw[he.2]
      exact h3 (j-1) (by omega)
     ·exact h3 j (by omega)
theorem Qbz {xs:List Int} (hs:xs.Pairwise λx y=>x<=y):(compact xs).Pairwise (λx y=>x<y)/\(∀x,x∈compact xs↔x∈xs)/\(compact xs).length<=xs.length:=by
 obtain⟨h1,h2,h3,h4⟩:=Q12 xs hs xs.length (Nat.le_refl _)
 have hget:∀j (h:j<xs.length),xs.toArray[j]! = xs[j]:=λj h=>by
  rw[getElem!_pos _ _ (by simpa using h)];simp
 refine⟨h1,λx=>⟨λhx=>?_,λhx=>?_⟩,h4⟩
 ·obtain⟨j,hj,rfl⟩:=h2 x hx
  rw[hget j hj]
  exact List.getElem_mem hj
 ·obtain⟨j,hj,rfl⟩:=List.mem_iff_getElem.1 hx
  have:=h3 j hj
  rwa [hget j hj]at this
end Go.Abs
