/- A result whose array holds arrays, held by value. -/
import Derived.Test.YtcdjgldeiaiaoaaGreatAbsW
set_option linter.unusedVariables false
set_option linter.unusedSimpArgs false
namespace Go.Abs
open Go.RowKit
def Q6g (h:List O):V->Option V
 | .own id g off len=>Jd h (.own id g off len)
 | v=>bif v.isD then some v else none
def Qj1 (h:List O):V->Option V
 | .own id g off len=>match h[id]? with
   | some (.arr g' sz els)=>if g=g'/\off+len<=els.length then (((els.drop off).take len).mapM λ(el:List V)=>List.mapM (Q6g h) el).map (V.l sz) else none
   | _=>none
 | v=>frz h v
def Qho (rs:List Rr) (σ:St):Option V :=
 (rs.mapM (Y7 σ)).bind λvs=>(vs.mapM (Qj1 σ.h)).map Y6
def Q9u (rs:List Rr) (R:V->Prop) (x:X) (σ:St):Prop :=
 match x with
 | .e _=>False
 | _=>∃r,Qho rs σ=some r/\R r
section
variable {P:Program} {J:Nat->Prop} {m:List Ent} {w:World} {h:List O}
theorem frzD_ok (hr:RS J h m w) {v r:V} (hf:Q6g h v=some r) {c:Value} (hv:RC J m w v c):RD (λk=>J k∨Js m k) w r c:=by
 have hsub:∀k,J k->(λk=>J k∨Js m k) k:=λk hk=>.inl hk
 cases v
 case own id g off len =>
  simp only[Q6g]at hf
  have h1:=Q6h hr hf hv
  simp only[Jd]at hf
  split at hf
  case h_2=>simp at hf
  split at hf
  case isFalse=>simp at hf
  obtain rfl:=Option.some.inj hf
  exact h1
 all_goals
  simp only[Q6g,V.isD,cond_true,cond_false,Option.some.injEq,reduceCtorEq]at hf
  try subst hf
  try exact(show RD J w _ c from hv).mono hsub (λ_ _=>rfl)
theorem frzN_ok (hr:RS J h m w) {v r:V} (hf:Qj1 h v=some r) {c:Value} (hv:RV J m w v c):RA (λk=>J k∨Js m k) [] w r c:=by
 cases v
 case own id g off len =>
  have hv:RC J m w (.own id g off len) c:=hv
  simp only[Qj1]at hf
  split at hf
  case h_2=>simp at hf
  rename_i g' sz els ho
  split at hf
  case isFalse=>simp at hf
  rename_i hcond
  obtain⟨rfl,hle⟩:=hcond
  rw[qa]at hf
  obtain⟨els',hels',rfl⟩:=hf
  have he:Zg sz h (.own id g off len)=some ((els.drop off).take len):=by simp[Zg,ho,hle]
  obtain⟨a,cap,hx,h1,h2,h3,h4⟩:=Xm hr (Qe hv) he
  have hv':=Xr hr (Qe hv) ho
  obtain⟨en,hen,_,_,hsl,_⟩:=hv'
  obtain⟨hlen,hget⟩:=Ja hels'
  subst hx
  refine Qq ?_
  cases a with
  | none =>
    obtain⟨h5,h6⟩:=h2 rfl
    have:els'=[]:=qm (by rw[hlen];exact h5)
    subst h6
    rw[this,h5]
    exact RD.l0 sz
  | some a =>
    obtain⟨cs,h5,h6⟩:=h4 a rfl
    by_cases h0:((els.drop off).take len).length=0
    ·have:els'=[]:=qm (by rw[hlen];exact h0)
     rw[this]
     have h7:((els.drop off).take len)=[]:=qm h0
     rw[h7]
     exact RD.l1 sz a cap
    ·have hb:Js m a.block:=by
      unfold Ent.sl at hsl
      cases hbk:en.blk with
      | none =>
        rw[hbk]at hsl
        obtain⟨_,_,q3⟩:=hsl
        exfalso
        rcases q3 with q3 | ⟨_,q3⟩<;>simp at q3
        rw[qw,List.length_drop]at h0
        omega
      | some B =>
        rw[hbk]at hsl
        obtain⟨o,cc,q3,_⟩:=hsl
        simp only[Value.slice.injEq,Option.some.injEq]at q3
        exact⟨id,en,hen,by rw[hbk,q3.1]⟩
     rw[<- hlen]
     refine RD.l sz els' a cap cs (.inr hb) (by rw[hlen];exact h1) (λi el hel=>?_) (λi j hi hj=>h5 i j (by rw[<- hlen];exact hi) hj) (λi el j v q1 q2=>?_)
     ·obtain⟨el0,q3,q4⟩:=hget i el hel
      rw[(Ja q4).1]
      exact h3 i el0 q3
     ·obtain⟨el0,q3,q4⟩:=hget i el q1
      obtain⟨x0,q5,q6⟩:=(Ja q4).2 j v q2
      exact frzD_ok hr q6 (h6 i el0 j x0 q3 q5)
 all_goals
  simp only[Qj1]at hf
  exact Q6f hr hf hv
theorem Q86 (hmix:P.follows .mixedOrders=true) {f:FuncId} {fn:Func} {code:Code} {c:C} {rs:List Rr} (hf:P.funcs[f]?=some fn) (hb:fn.body=some code) (hc:Yg P fn.ntmps code=some c) (hrs:Ih P fn=some rs)
  {vs:List V} (hn:vs.length<=fn.ntmps) {R:V->Prop} (hbody:AS P 0 c ⟨Z7 0 vs,[]⟩ (λx σ'=>(match x with | .e _=>False | _=>True)/\∃r,Qho rs σ'=some r/\R r)):PureC P f vs R:=by
 intro J m w cargs hr hp
 have hm:m=[]:=qm (by rw[hr.len];rfl)
 subst hm
 refine calls_of_wp hf hb ?_
 have hcl:cargs.length<=fn.ntmps:=by rw[<- hp.1];exact hn
 have hrel:RelF fn.ntmps J [] (λt=>get t (Z7 0 vs)) [] { tmps:=cargs.toArray++Array.replicate (fn.ntmps-cargs.toArray.size) undef,defers:=[] } w:=by
  refine⟨λt=>?_,hr,rfl,by simp;omega⟩
  simp only
  rw[Yv,if_pos (Nat.zero_le _),Nat.sub_zero]
  cases hv:vs[t]? with
  | none=>trivial
  | some v =>
    obtain⟨cv,h1,h2⟩:=hp.get hv
    have hlt:=(q8.1 h1).1
    have:(cargs.toArray++Array.replicate (fn.ntmps-cargs.toArray.size) undef).getD t undef=cv:=by
     rw[Array.getD_eq_getD_getElem?,jk (by simpa using hlt)]
     simp[h1]
    rw[this]
    exact h2
 refine wp_mono (Q9x hmix code c hc _ _ hbody J [] _ w hrel) ?_
 rintro e a' w' ⟨x,σ',J',m',hx,⟨hx2,r,hres,hR⟩,hrel',hev⟩
 have hret:a'.defers=[]/\∃v,(results fn a'.tmps).run P w'=.ok v w'/\∃v0 r h' J'' m'',Ending.returned v=.returned v0/\(R r/\h'=[])/\RV J'' m'' w' r v0/\RS J'' h' m'' w'/\(∀n,Ev n J [] w J'' m'' w')/\Ml [] m'':=by
  refine⟨hrel'.defers,?_⟩
  simp only[Qho,qt,qa]at hres
  obtain⟨us,hus,fs,hfs,rfl⟩:=hres
  obtain⟨cs,hcs,hrun⟩:=W6 hrel' hrs hus
  refine⟨_,hrun,_,Y6 fs,[],λk=>J' k∨Js m' k,[],rfl,⟨hR,rfl⟩,?_,?_,λn=>?_,Ml.nil _⟩
  ·have hpa:Pw (RA (λk=>J' k∨Js m' k) [] w') fs cs:=I8 (R:=RV J' m' w') (R':=RA (λk=>J' k∨Js m' k) [] w') (λv r c q1 q2=>frzN_ok hrel'.rs q1 q2) hfs hcs
   have hl:=hpa.1
   match fs,cs,hl,hpa with
   | [],[],_,hpa=>exact⟨#[],rfl,Pw.nil⟩
   | [v],[c],_,hpa =>
     simp only[Y6]
     have:(if h:([c]:List Value).toArray.size=1 then ([c]:List Value).toArray[0] else Value.tuple [c].toArray)=c:=by simp
     rw[this]
     exact Qw hpa.head
   | v1::v2::vr,c1::c2::cr,_,hpa =>
     simp only[Y6]
     rw[dif_neg (by simp)]
     exact⟨_,rfl,by simpa using hpa⟩
  ·refine⟨rfl,λk hk=>?_,by simp,by simp,by simp⟩
   rcases hk with hk | ⟨id,e,h1,h2⟩
   ·exact hrel'.rs.jlt k hk
   ·exact(hrel'.rs.dis id e k h1 h2).2
  ·refine⟨hev.os,hev.tape,hev.output,hev.drawn,hev.size,hev.keep,by simp,λk hk=>.inl (hev.sub k hk),λk hk=>?_,by simp⟩
   rcases hk with hk | ⟨id,e,h1,h2⟩
   ·exact hev.jnew k hk
   ·rcases hev.fresh id e k h1 h2 with h3 | h3
    ·exact .inr (.inl h3)
    ·exact .inr (.inr h3)
 cases e<;>cases x<;>simp only at hx<;>(try exact hx.elim)<;>(try exact hx2.elim)
 ·exact hret
 ·exact hret
theorem Q85 {P:Program} (hmix:P.follows .mixedOrders=true) {f:FuncId} {c:C} {rs:List Rr} {n:Nat} (hf:Qb P f c rs n) {vs:List V} (hn:vs.length<=n) {R:V->Prop}
  (hb:AS P 0 c ⟨Z7 0 vs,[]⟩ (Q9u rs R)):PureC P f vs R:=by
 obtain⟨fn,code,h1,h2,h3,h4,rfl⟩:=hf
 refine Q86 hmix h1 h2 h3 h4 hn ?_
 refine (congrArg (AS P 0 c ⟨Z7 0 vs,[]⟩) (funext λx=>funext λσ=>propext ?_)).mpr hb
 cases x<;>simp[Q9u]
@[congr] theorem DoneF_congr {rs:List Rr} {R:V->Prop} {x x':X} {σ σ':St} (hx:x=x') (hh:σ=σ'):Q9u rs R x σ=Q9u rs R x' σ':=by rw[hx,hh]
theorem Kn (rs:List Rr) (R:V->Prop) {σ:St}:Q9u rs R .r σ=∃r,Qho rs σ=some r/\R r:=Rfl rfl
attribute [go_sem]  Kn  Qho Qj1 Q6g
end
end Go.Abs
