/- Part of the library on which the proof stands: an abstract machine, its values and its soundness against the model; or what functions of the program do to such values. -/
import Derived.Test.YtnaehggpjfdenaaGreatAbsW
import Derived.Lib.SlicesCompact
set_option linter.unusedVariables false
set_option linter.unusedSimpArgs false
namespace Go.Abs
open Go.RowKit
def Em (h:List O):V->Option V
 | .own id g off len=>X1 h (.own id g off len)
 | v=>bif v.isD then some v else none
def Qbv (h:List O):V->Option V
 | .own id g off len=>match h[id]? with
   | some (.arr g' sz els)=>if g=g'/\off+len<=els.length then (((els.drop off).take len).mapM λ(el:List V)=>List.mapM (Em h) el).map (V.l sz) else none
   | _=>none
 | v=>frz h v
def Qph (rs:List Rr) (σ:St):Option V :=
 (rs.mapM (Yt σ)).bind λvs=>(vs.mapM (Qbv σ.h)).map Yh
def Qg7 (rs:List Rr) (R:V->Prop) (x:X) (σ:St):Prop :=
 match x with
 | .e _=>False
 | _=>∃r,Qph rs σ=some r/\R r
section
variable {P:Program} {J:Nat->Prop} {m:List Ent} {w:World} {h:List O}
theorem frzD_ok (hr:RS J h m w) {v r:V} (hf:Em h v=some r) {c:Value} (hv:RC J m w v c):RD (λk=>J k∨Jh m k) w r c:=by
 have hsub:∀k,J k->(λk=>J k∨Jh m k) k:=λk hk=>.inl hk
 cases v
 case own id g off len =>
  simp only[Em]at hf
  have h1:=Q4b hr hf hv
  simp only[X1]at hf
  split at hf
  case h_2=>simp at hf
  split at hf
  case isFalse=>simp at hf
  obtain rfl:=Option.some.inj hf
  exact h1
 all_goals
  simp only[Em,V.isD,cond_true,cond_false,Option.some.injEq,reduceCtorEq]at hf
  try subst hf
  try exact(show RD J w _ c from hv).mono hsub (λ_ _=>rfl)
theorem Qbu (hr:RS J h m w) {v r:V} (hf:Qbv h v=some r) {c:Value} (hv:RV J m w v c):RA (λk=>J k∨Jh m k) [] w r c:=by
 cases v
 case own id g off len =>
  have hv:RC J m w (.own id g off len) c:=hv
  simp only[Qbv]at hf
  split at hf
  case h_2=>simp at hf
  rename_i g' sz els ho
  split at hf
  case isFalse=>simp at hf
  rename_i hcond
  obtain⟨rfl,hle⟩:=hcond
  rw[qa]at hf
  obtain⟨els',hels',rfl⟩:=hf
  have he:Zl sz h (.own id g off len)=some ((els.drop off).take len):=by simp[Zl,ho,hle]
  obtain⟨a,cap,hx,h1,h2,h3,h4⟩:=Xr hr (Qh hv) he
  have hv':=J5 hr (Qh hv) ho
  obtain⟨en,hen,_,_,hsl,_⟩:=hv'
  obtain⟨hlen,hget⟩:=Jz hels'
  subst hx
  refine Qw ?_
  cases a with
  | none =>
    obtain⟨h5,h6⟩:=h2 rfl
    have:els'=[]:=ql (by rw[hlen];exact h5)
    subst h6
    rw[this,h5]
    exact RD.l0 sz
  | some a =>
    obtain⟨cs,h5,h6⟩:=h4 a rfl
    by_cases h0:((els.drop off).take len).length=0
    ·have:els'=[]:=ql (by rw[hlen];exact h0)
     rw[this]
     have h7:((els.drop off).take len)=[]:=ql h0
     rw[h7]
     exact RD.l1 sz a cap
    ·have hb:Jh m a.block:=by
      unfold Ent.sl at hsl
      cases hbk:en.blk with
      | none =>
        rw[hbk]at hsl
        obtain⟨_,_,q3⟩:=hsl
        exfalso
        rcases q3 with q3 | ⟨_,q3⟩<;>simp at q3
        rw[qv,List.length_drop]at h0
        omega
      | some B =>
        rw[hbk]at hsl
        obtain⟨o,cc,q3,_⟩:=hsl
        simp only[Value.slice.injEq,Option.some.injEq]at q3
        exact⟨id,en,hen,by rw[hbk,q3.1]⟩
     rw[<- hlen]
     refine RD.l sz els' a cap cs (.inr hb) (by rw[hlen];exact h1) (λi el hel=>?_) (λi j hi hj=>h5 i j (by rw[<- hlen];exact hi) hj) (λi el j v q1 q2=>?_)
     ·obtain⟨el0,q3,q4⟩:=hget i el hel
      rw[(Jz q4).1]
      exact h3 i el0 q3
     ·obtain⟨el0,q3,q4⟩:=hget i el q1
      obtain⟨x0,q5,q6⟩:=(Jz q4).2 j v q2
      exact frzD_ok hr q6 (h6 i el0 j x0 q3 q5)
 all_goals
  simp only[Qbv]at hf
  exact Qht hr hf hv
theorem Qed (hmix:P.follows .mixedOrders=true) {f:FuncId} {fn:Func} {code:Code} {c:C} {rs:List Rr} (hf:P.funcs[f]?=some fn) (hb:fn.body=some code) (hc:Yg P fn.ntmps code=some c) (hrs:E1 P fn=some rs)
  {vs:List V} (hn:vs.length<=fn.ntmps) {R:V->Prop} (hbody:AS P 0 c ⟨Z5 0 vs,[]⟩ (λx σ'=>(match x with | .e _=>False | _=>True)/\∃r,Qph rs σ'=some r/\R r)):PureC P f vs R:=by
 intro J m w cargs hr hp
 have hm:m=[]:=ql (by rw[hr.len];rfl)
 subst hm
 refine calls_of_wp hf hb ?_
 have hcl:cargs.length<=fn.ntmps:=by rw[<- hp.1];exact hn
 have hrel:RelF fn.ntmps J [] (λt=>get t (Z5 0 vs)) [] { tmps:=cargs.toArray++Array.replicate (fn.ntmps-cargs.toArray.size) undef,defers:=[] } w:=by
  refine⟨λt=>?_,hr,rfl,by simp;omega⟩
  simp only
  rw[Yf,if_pos (Nat.zero_le _),Nat.sub_zero]
  cases hv:vs[t]? with
  | none=>trivial
  | some v =>
    obtain⟨cv,h1,h2⟩:=hp.get hv
    have hlt:=(q8.1 h1).1
    have:(cargs.toArray++Array.replicate (fn.ntmps-cargs.toArray.size) undef).getD t undef=cv:=by
     rw[Array.getD_eq_getD_getElem?,jv (by simpa using hlt)]
     simp[h1]
    rw[this]
    exact h2
 refine wp_mono (Qa8 hmix code c hc _ _ hbody J [] _ w hrel) ?_
 rintro e a' w' ⟨x,σ',J',m',hx,⟨hx2,r,hres,hR⟩,hrel',hev⟩
 have hret:a'.defers=[]/\∃v,(results fn a'.tmps).run P w'=.ok v w'/\∃v0 r h' J'' m'',Ending.returned v=.returned v0/\(R r/\h'=[])/\RV J'' m'' w' r v0/\RS J'' h' m'' w'/\(∀n,Ev n J [] w J'' m'' w')/\Ml [] m'':=by
  refine⟨hrel'.defers,?_⟩
  simp only[Qph,qr,qa]at hres
  obtain⟨us,hus,fs,hfs,rfl⟩:=hres
  obtain⟨cs,hcs,hrun⟩:=Kq hrel' hrs hus
  refine⟨_,hrun,_,Yh fs,[],λk=>J' k∨Jh m' k,[],rfl,⟨hR,rfl⟩,?_,?_,λn=>?_,Ml.nil _⟩
  ·have hpa:Pw (RA (λk=>J' k∨Jh m' k) [] w') fs cs:=Us (R:=RV J' m' w') (R':=RA (λk=>J' k∨Jh m' k) [] w') (λv r c q1 q2=>Qbu hrel'.rs q1 q2) hfs hcs
   have hl:=hpa.1
   match fs,cs,hl,hpa with
   | [],[],_,hpa=>exact⟨#[],rfl,Pw.nil⟩
   | [v],[c],_,hpa =>
     simp only[Yh]
     have:(if h:([c]:List Value).toArray.size=1 then ([c]:List Value).toArray[0] else Value.tuple [c].toArray)=c:=by simp
     rw[this]
     exact Z2 hpa.head
   | v1::v2::vr,c1::c2::cr,_,hpa =>
     simp only[Yh]
     rw[dif_neg (by simp)]
     exact⟨_,rfl,by simpa using hpa⟩
  ·refine⟨rfl,λk hk=>?_,by simp,by simp,by simp⟩
   rcases hk with hk | ⟨id,e,h1,h2⟩
   ·exact hrel'.rs.jlt k hk
   ·exact(hrel'.rs.dis id e k h1 h2).2
  ·refine⟨hev.os,hev.tape,hev.output,hev.drawn,hev.size,hev.keep,by simp,λk hk=>.inl (hev.sub k hk),λk hk=>?_,by simp⟩
   rcases hk with hk | ⟨id,e,h1,h2⟩
   ·exact hev.jnew k hk
   ·rcases hev.fresh id e k h1 h2 with h3 | h3
    ·exact .inr (.inl h3)
    ·exact .inr (.inr h3)
 cases e<;>cases x<;>simp only at hx<;>(try exact hx.elim)<;>(try exact hx2.elim)
 ·exact hret
 ·exact hret
theorem Q5m {P:Program} (hmix:P.follows .mixedOrders=true) {f:FuncId} {c:C} {rs:List Rr} {n:Nat} (hf:Q9 P f c rs n) {vs:List V} (hn:vs.length<=n) {R:V->Prop}
  (hb:AS P 0 c ⟨Z5 0 vs,[]⟩ (Qg7 rs R)):PureC P f vs R:=by
 obtain⟨fn,code,h1,h2,h3,h4,rfl⟩:=hf
 refine Qed hmix h1 h2 h3 h4 hn ?_
 refine (congrArg (AS P 0 c ⟨Z5 0 vs,[]⟩) (funext λx=>funext λσ=>propext ?_)).mpr hb
 cases x<;>simp[Qg7]
@[congr] theorem DoneF_congr {rs:List Rr} {R:V->Prop} {x x':X} {σ σ':St} (hx:x=x') (hh:σ=σ'):Qg7 rs R x σ=Qg7 rs R x' σ':=by rw[hx,hh]
theorem Q4f (rs:List Rr) (R:V->Prop) {σ:St}:Qg7 rs R .r σ=∃r,Qph rs σ=some r/\R r:=Rfl rfl
attribute [go_sem]  Q4f  Qph Qbv Em
end
end Go.Abs
namespace Go.Abs
open Go.RowKit
def Qrn (h:List O):V->Option V
 | .own id g off len=>Qbv h (.own id g off len)
 | v=>X1 h v
def Qrm (h:List O):V->Option V
 | .a cs=>(cs.mapM (Qrn h)).map .a
 | v=>Qbv h v
def Qpg (rs:List Rr) (σ:St):Option V :=
 (rs.mapM (Yt σ)).bind λvs=>(vs.mapM (Qrm σ.h)).map Yh
def Qg6 (rs:List Rr) (R:V->Prop) (x:X) (σ:St):Prop :=
 match x with
 | .e _=>False
 | _=>∃r,Qpg rs σ=some r/\R r
section
variable {P:Program} {J:Nat->Prop} {m:List Ent} {w:World} {h:List O}
theorem frzM_ok (hr:RS J h m w) {v r:V} (hf:Qrn h v=some r) {c:Value} (hv:RC J m w v c):RC (λk=>J k∨Jh m k) [] w r c:=by
 cases v
 case own id g off len =>
  have h1:=Qbu hr (show Qbv h (.own id g off len)=some r from hf) (Qh hv)
  simp only[Qrn,Qbv]at hf
  split at hf
  case h_2=>simp at hf
  split at hf
  case isFalse=>simp at hf
  rw[qa]at hf
  obtain⟨els',_,rfl⟩:=hf
  exact h1
 all_goals
  simp only[Qrn]at hf
  exact Q4b hr hf hv
theorem frzP_ok (hr:RS J h m w) {v r:V} (hf:Qrm h v=some r) {c:Value} (hv:RV J m w v c):RA (λk=>J k∨Jh m k) [] w r c:=by
 cases v
 case a cs =>
  simp only[Qrm,qa]at hf
  obtain⟨rs,hrs,rfl⟩:=hf
  obtain⟨arr,rfl,hp⟩:=hv
  exact⟨arr,rfl,Us (R':=RC (λk=>J k∨Jh m k) [] w) (λv r c q1 q2=>frzM_ok hr q1 q2) hrs hp⟩
 all_goals
  simp only[Qrm]at hf
  exact Qbu hr hf hv
theorem Qec (hmix:P.follows .mixedOrders=true) {f:FuncId} {fn:Func} {code:Code} {c:C} {rs:List Rr} (hf:P.funcs[f]?=some fn) (hb:fn.body=some code) (hc:Yg P fn.ntmps code=some c) (hrs:E1 P fn=some rs)
  {vs:List V} (hn:vs.length<=fn.ntmps) {R:V->Prop} (hbody:AS P 0 c ⟨Z5 0 vs,[]⟩ (λx σ'=>(match x with | .e _=>False | _=>True)/\∃r,Qpg rs σ'=some r/\R r)):PureC P f vs R:=by
 intro J m w cargs hr hp
 have hm:m=[]:=ql (by rw[hr.len];rfl)
 subst hm
 refine calls_of_wp hf hb ?_
 have hcl:cargs.length<=fn.ntmps:=by rw[<- hp.1];exact hn
 have hrel:RelF fn.ntmps J [] (λt=>get t (Z5 0 vs)) [] { tmps:=cargs.toArray++Array.replicate (fn.ntmps-cargs.toArray.size) undef,defers:=[] } w:=by
  refine⟨λt=>?_,hr,rfl,by simp;omega⟩
  simp only
  rw[Yf,if_pos (Nat.zero_le _),Nat.sub_zero]
  cases hv:vs[t]? with
  | none=>trivial
  | some v =>
    obtain⟨cv,h1,h2⟩:=hp.get hv
    have hlt:=(q8.1 h1).1
    have:(cargs.toArray++Array.replicate (fn.ntmps-cargs.toArray.size) undef).getD t undef=cv:=by
     rw[Array.getD_eq_getD_getElem?,jv (by simpa using hlt)]
     simp[h1]
    rw[this]
    exact h2
 refine wp_mono (Qa8 hmix code c hc _ _ hbody J [] _ w hrel) ?_
 rintro e a' w' ⟨x,σ',J',m',hx,⟨hx2,r,hres,hR⟩,hrel',hev⟩
 have hret:a'.defers=[]/\∃v,(results fn a'.tmps).run P w'=.ok v w'/\∃v0 r h' J'' m'',Ending.returned v=.returned v0/\(R r/\h'=[])/\RV J'' m'' w' r v0/\RS J'' h' m'' w'/\(∀n,Ev n J [] w J'' m'' w')/\Ml [] m'':=by
  refine⟨hrel'.defers,?_⟩
  simp only[Qpg,qr,qa]at hres
  obtain⟨us,hus,fs,hfs,rfl⟩:=hres
  obtain⟨cs,hcs,hrun⟩:=Kq hrel' hrs hus
  refine⟨_,hrun,_,Yh fs,[],λk=>J' k∨Jh m' k,[],rfl,⟨hR,rfl⟩,?_,?_,λn=>?_,Ml.nil _⟩
  ·have hpa:Pw (RA (λk=>J' k∨Jh m' k) [] w') fs cs:=Us (R:=RV J' m' w') (R':=RA (λk=>J' k∨Jh m' k) [] w') (λv r c q1 q2=>frzP_ok hrel'.rs q1 q2) hfs hcs
   have hl:=hpa.1
   match fs,cs,hl,hpa with
   | [],[],_,hpa=>exact⟨#[],rfl,Pw.nil⟩
   | [v],[c],_,hpa =>
     simp only[Yh]
     have:(if h:([c]:List Value).toArray.size=1 then ([c]:List Value).toArray[0] else Value.tuple [c].toArray)=c:=by simp
     rw[this]
     exact Z2 hpa.head
   | v1::v2::vr,c1::c2::cr,_,hpa =>
     simp only[Yh]
     rw[dif_neg (by simp)]
     exact⟨_,rfl,by simpa using hpa⟩
  ·refine⟨rfl,λk hk=>?_,by simp,by simp,by simp⟩
   rcases hk with hk | ⟨id,e,h1,h2⟩
   ·exact hrel'.rs.jlt k hk
   ·exact(hrel'.rs.dis id e k h1 h2).2
  ·refine⟨hev.os,hev.tape,hev.output,hev.drawn,hev.size,hev.keep,by simp,λk hk=>.inl (hev.sub k hk),λk hk=>?_,by simp⟩
   rcases hk with hk | ⟨id,e,h1,h2⟩
   ·exact hev.jnew k hk
   ·rcases hev.fresh id e k h1 h2 with h3 | h3
    ·exact .inr (.inl h3)
    ·exact .inr (.inr h3)
 cases e<;>cases x<;>simp only at hx<;>(try exact hx.elim)<;>(try exact hx2.elim)
 ·exact hret
 ·exact hret
theorem Qpl {P:Program} (hmix:P.follows .mixedOrders=true) {f:FuncId} {c:C} {rs:List Rr} {n:Nat} (hf:Q9 P f c rs n) {vs:List V} (hn:vs.length<=n) {R:V->Prop}
  (hb:AS P 0 c ⟨Z5 0 vs,[]⟩ (Qg6 rs R)):PureC P f vs R:=by
 obtain⟨fn,code,h1,h2,h3,h4,rfl⟩:=hf
 refine Qec hmix h1 h2 h3 h4 hn ?_
 refine (congrArg (AS P 0 c ⟨Z5 0 vs,[]⟩) (funext λx=>funext λσ=>propext ?_)).mpr hb
 cases x<;>simp[Qg6]
@[congr] theorem DoneP_congr {rs:List Rr} {R:V->Prop} {x x':X} {σ σ':St} (hx:x=x') (hh:σ=σ'):Qg6 rs R x σ=Qg6 rs R x' σ':=by rw[hx,hh]
theorem DoneP_r (rs:List Rr) (R:V->Prop) {σ:St}:Qg6 rs R .r σ=∃r,Qpg rs σ=some r/\R r:=Rfl rfl
attribute [go_sem]  DoneP_r  Qpg Qrm Qrn
end
end Go.Abs
namespace Go.Abs
open Go.Lib
theorem Q2k (xs:List Int) (hs:xs.Pairwise λx y=>x<=y):∀m,m<=xs.length->(compactUpTo xs.toArray m).Pairwise (λx y=>x<y)/\(∀x∈compactUpTo xs.toArray m,∃j,j<m/\x=xs.toArray[j]!) /\
  (∀j,j<m->xs.toArray[j]! ∈ compactUpTo xs.toArray m)/\(compactUpTo xs.toArray m).length<=m
 | 0,_=>⟨by simp[compactUpTo],by simp[compactUpTo],by omega,by simp[compactUpTo]⟩
 | m+1,hm=>by
   obtain⟨h1,h2,h3,h4⟩:=Q2k xs hs m (by omega)
   have hget:∀j (h:j<xs.length),xs.toArray[j]! = xs[j]:=λj h=>by
    rw[getElem!_pos _ _ (by simpa using h)];simp
   have hmono:∀i j,i<=j->j<xs.length->xs.toArray[i]! <= xs.toArray[j]!:=λi j hij hj=>by
    rw[hget i (by omega),hget j hj]
    by_cases he:i=j
    ·subst he;exact Int.le_refl _
    ·exact j8.1 hs i j (by omega) hj (by omega)
   rw[compactUpTo_succ]
   by_cases hk:keeps xs.toArray m=true
   ·rw[if_pos hk]
    have hlt:∀x∈compactUpTo xs.toArray m,x<xs.toArray[m]!:=λx hx=>by
     obtain⟨j,hj,rfl⟩:=h2 x hx
     have hne:xs.toArray[m]! ≠ xs.toArray[m-1]!:=by
      unfold keeps at hk
      simp only[decide_eq_true_eq]at hk
      rcases hk with hk | hk
      ·omega
      ·exact hk
     have a1:=hmono j (m-1) (by omega) (by omega)
     have a2:=hmono (m-1) m (by omega) (by omega)
     omega
    refine⟨?_,λx hx=>?_,λj hj=>?_,by simp;omega⟩
    ·rw[jg]
     exact⟨h1,by simp,λx hx y hy=>by rw[qn.1 hy];exact hlt x hx⟩
    ·rcases qg.1 hx with hx | hx
     ·obtain⟨j,hj,e⟩:=h2 x hx;exact⟨j,by omega,e⟩
     ·exact⟨m,by omega,qn.1 hx⟩
    ·by_cases he:j=m
     ·subst he;simp
     ·exact qg.2 (.inl (h3 j (by omega)))
   ·rw[if_neg hk,List.append_nil]
    have he:m≠0/\xs.toArray[m]! = xs.toArray[m-1]!:=by
     unfold keeps at hk
     simp only[decide_eq_true_eq,not_or,Decidable.not_not]at hk
     exact hk
    refine⟨h1,λx hx=>?_,λj hj=>?_,by omega⟩
    ·obtain⟨j,hj,e⟩:=h2 x hx;exact⟨j,by omega,e⟩
    ·by_cases hj2:j=m
     ·subst hj2
      rw[he.2]
      exact h3 (j-1) (by omega)
     ·exact h3 j (by omega)
theorem Qfk {xs:List Int} (hs:xs.Pairwise λx y=>x<=y):(compact xs).Pairwise (λx y=>x<y)/\(∀x,x∈compact xs↔x∈xs)/\(compact xs).length<=xs.length:=by
 obtain⟨h1,h2,h3,h4⟩:=Q2k xs hs xs.length (Nat.le_refl _)
 have hget:∀j (h:j<xs.length),xs.toArray[j]! = xs[j]:=λj h=>by
  rw[getElem!_pos _ _ (by simpa using h)];simp
 refine⟨h1,λx=>⟨λhx=>?_,λhx=>?_⟩,h4⟩
 ·obtain⟨j,hj,rfl⟩:=h2 x hx
  rw[hget j hj]
  exact List.getElem_mem hj
 ·obtain⟨j,hj,rfl⟩:=List.mem_iff_getElem.1 hx
  have:=h3 j hj
  rwa [hget j hj]at this
end Go.Abs
