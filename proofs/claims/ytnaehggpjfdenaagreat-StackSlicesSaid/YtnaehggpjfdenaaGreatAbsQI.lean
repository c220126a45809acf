/- Part of the library on which the proof stands: an abstract machine, its values and its soundness against the model; or what functions of the program do to such values. -/
import Derived.Test.YtnaehggpjfdenaaGreatAbsQ
set_option linter.unusedVariables false
set_option linter.unusedSimpArgs false
namespace Go.Abs
open Go.RowKit
def Q0g (aft:List (List Nat)) (ls:List Nat):List Nat :=
 (List.range aft.length).filter λi=>!ls.contains i && (aft.getD i []).all λe=>ls.contains e
def AG (P:Program) (x:Ins) (σ:St) (k:St->Prop):Prop :=
 match x.g with
 | none=>A1 P x σ k
 | some (t,Z0)=>Xa (get t σ.env) Z0 (A1 P x σ k) (k ⟨Qp x.d (.t []) σ.env,σ.h⟩)
def AX (P:Program) (xs:List Ins) (aft:List (List Nat)):Nat->List Nat->St->(St->Prop)->Prop
 | 0,ls,σ,κ=>Q0g aft ls=[]/\κ σ
 | n+1,ls,σ,κ=>(Q0g aft ls=[]->κ σ)/\∀i∈Q0g aft ls,∃x,xs[i]?=some x/\AG P x σ (λσ'=>AX P xs aft n (i::ls) σ' κ)
def Wk (ops:List Oper):List (List Nat):=ops.map λo=>(o.after.toList.filter (Region.binds .any)).map (·.on)
def Lst (ops:Array Oper) (ls:List Nat) (listed:Array Bool):Prop:=listed.size=ops.size/\∀j b,listed.getD j b=if j<ops.size then ls.contains j else b
theorem Lst.nil (ops:Array Oper):Lst ops [] (Array.replicate ops.size false):=by
 refine⟨by simp,λj b=>?_⟩;simp only[Array.getD_eq_getD_getElem?,Array.getElem?_replicate];by_cases h:j<ops.size<;>simp[h]
theorem Lst.cons {ops:Array Oper} {ls:List Nat} {listed:Array Bool} (h:Lst ops ls listed) {i:Nat} (hi:i<ops.size):Lst ops (i::ls) (listed.setIfInBounds i true):=by
 refine⟨by simpa using h.1,λj b=>?_⟩;have h2:=h.2 j b;simp only[Array.getD_eq_getD_getElem?]at h2 ⊢;by_cases hj:i=j
 ·subst hj;rw[Array.getElem?_setIfInBounds_self_of_lt (by rw[h.1];exact hi)];simp[hi]
 ·rw[Array.getElem?_setIfInBounds_ne hj,h2];have:¬ j=i:=λhh=>hj hh.symm
  simp[this]
theorem Qjb {ops:Array Oper} {ls:List Nat} {listed:Array Bool} (h:Lst ops ls listed) (hls:∀i∈ls,i<ops.size):Region.ready .any ops listed=Q0g (Wk ops.toList) ls:=by
 unfold Region.ready Q0g;have hlen:(Wk ops.toList).length=ops.size:=by simp[Wk]
 rw[hlen];refine List.filter_congr λi hi=>?_
 have hlt:i<ops.size:=qz.1 hi;rw[h.2 i true,if_pos hlt,Array.getElem?_eq_getElem hlt];congr 1;have h3:(Wk ops.toList).getD i []=(ops[i].after.toList.filter (Region.binds .any)).map (·.on):=by
  simp[Wk,List.getD_eq_getElem?_getD,hlt]
 rw[h3];simp only[Option.map_some,Option.getD_some,List.all_map,List.all_filter];rw[<- Array.all_toList];congr 1;funext e;rw[h.2 e.on false];by_cases he:e.on<ops.size
 ·simp[he]
 ·have:ls.contains e.on=false:=by
   rw[Bool.eq_false_iff];intro hc;exact he (hls _ (by simpa using hc))
  simp only[he,if_false,Function.comp,this]
theorem Qne {P:Program} {N n:Nat} {ops:Array Oper} {xs:List Ins} (hl:ops.toList.length=xs.length) (hk:∀(k:Nat) (o:Oper) (x:Ins),ops.toList[k]?=some o->xs[k]?=some x->∃imm,Jg P N ops imm o=some x) {Q:Exit->Act->World->Prop} {κ:St->Prop} :
  ∀(fuel:Nat) (ls:List Nat) (listed:Array Bool) (σ:St) (J:Nat->Prop) (m:List Ent) (a:Act) (w:World),Lst ops ls listed->(∀i∈ls,i<ops.size)->AX P xs (Wk ops.toList) fuel ls σ κ->RelF N J m (λt=>get t σ.env) σ.h a w ->
   (∀σ' J' m' a' w',κ σ'->RelF N J' m' (λt=>get t σ'.env) σ'.h a' w'->Ev n J m w J' m' w'->Q .normal a' w')->wpAny P .any ops Q fuel listed a w
 | 0,ls,listed,σ,J,m,a,w,hL,hls,hax,hr,hQ=>by
   unfold wpAny;exact⟨by rw[Qjb hL hls];exact hax.1,hQ σ J m a w hax.2 hr (Ev.refl n J m w)⟩
 | fuel+1,ls,listed,σ,J,m,a,w,hL,hls,hax,hr,hQ=>by
   unfold wpAny;rw[Qjb hL hls];refine⟨λh0=>hQ σ J m a w (hax.1 h0) hr (Ev.refl n J m w),λi hi=>?_⟩;obtain⟨x,hx,hag⟩:=hax.2 i hi;have hlt:i<ops.size:=by
    have:=(qu.1 hi).1;simpa[Wk]using qz.1 this
   have ho:ops.toList[i]?=some ops[i]:=by simp[hlt]
   obtain⟨imm,hcv⟩:=hk i ops[i] x ho hx;obtain⟨_,hd,hxd,hg⟩:=X9 hcv;have hw:=Ih hr hg;have hrest:=λσ J m a w=>Qne (n:=n) hl hk (Q:=Q) (κ:=κ) fuel (i::ls) (listed.setIfInBounds i true) σ J m a w (hL.cons hlt) (λj hj=>by
    rcases List.mem_cons.1 hj with rfl | hj
    ·exact hlt
    ·exact hls j hj)
   have hwant:A1 P x σ (λσ'=>AX P xs (Wk ops.toList) fuel (i::ls) σ' κ)->(ops[i]).wp P a w (wpAny P .any ops Q fuel (listed.setIfInBounds i true)) Q:=by
    intro ha1;refine Qmu hcv hr (κ:=λr h'=>AX P xs (Wk ops.toList) fuel (i::ls) ⟨Qp x.d r σ.env,h'⟩ κ) ?_ ?_
    ·unfold A1 at ha1;unfold Wc;rw[Xv];exact ha1
    ·intro r h' J' m' a' w' hκ hr' hev hml;refine hrest ⟨Qp x.d r σ.env,h'⟩ J' m' a' w' hκ (by rw[I3];exact hr') ?_;intro σ' J'' m'' a'' w'' h1 h2 h3;exact hQ σ' J'' m'' a'' w'' h1 h2 ((hev n).trans h3)
   have hskip:AX P xs (Wk ops.toList) fuel (i::ls) ⟨Qp x.d (.t []) σ.env,σ.h⟩ κ->wpAny P .any ops Q fuel (listed.setIfInBounds i true) (a.put (ops[i]).dst undef) w:=by
    intro ha1;refine hrest ⟨Qp x.d (.t []) σ.env,σ.h⟩ J m (a.put (ops[i]).dst undef) w ha1 ?_ hQ;rw[I3,hxd];exact hr.put (Ev.refl 0 J m w) (Ml.refl m) hr.rs hd ⟨#[],rfl,Pw.nil⟩
   have ho':ops[i]?=some ops[i]:=Array.getElem?_eq_getElem hlt;unfold wpOp;simp only[ho'];unfold AG at hag;cases hxg:x.g with
   | none =>
     rw[hxg]at hw hag
     simp only[Q4x]at hw hag;simp only[hw,if_true];exact .inl (hwant hag)
   | some p =>
     obtain⟨t,Z0⟩:=p;rw[hxg]at hw hag
     simp only[Q4x]at hw hag;unfold Xa at hag;split at hag
     case h_3=>exact hag.elim
     case h_2 =>
      rename_i hb;have hw':=hw.2 hb;simp only[hw',Bool.false_eq_true,if_false];exact hskip hag
     rename_i b hb;have hw':=hw.1 b hb;simp only[hw'];by_cases hbw:b=Z0
     ·subst hbw;simp only[beq_self_eq_true,if_true];exact .inl (hwant (hag.1 rfl))
     ·have:(b == Z0)=false:=by simpa using hbw
      simp only[this,Bool.false_eq_true,if_false];exact hskip (hag.2 (by cases b<;>cases Z0<;>simp at hbw ⊢))
end Go.Abs
namespace Go.Abs
open Go.RowKit
theorem Yh {t s:Nat} (hts:t≠s) (v u:V):∀env:List (Nat × V),put t v (put s u env)=put s u (put t v env)
 | []=>by
   simp only[put];by_cases h:t<s
   ·have:¬ s<t:=by omega
    have h':¬ s=t:=λhh=>hts hh.symm
    simp[h,this,h',put]
   ·have h2:s<t:=by omega
    have h':¬ s=t:=λhh=>hts hh.symm
    simp[h,h2,hts,put]
 | (q,x)::r=>by
   have ih:=Yh hts v u r;have h':¬ s=t:=λhh=>hts hh.symm
   simp only[put];by_cases h1:t<q<;>by_cases h2:s<q<;>by_cases h3:t=q<;>by_cases h4:s=q<;>by_cases h5:t<s<;>by_cases h6:s<t <;>
    first
    | (exfalso;omega)
    | (subst h3;simp[put,h1,h2,h4,h5,h6,hts,h',ih];done)
    | (subst h4;simp[put,h1,h2,h3,h5,h6,hts,h',ih];done)
    | (simp[put,h1,h2,h3,h4,h5,h6,hts,h',ih];done)
def Qmy:List (List Nat):=[[],[],[0,1],[2],[0,1,0,1],[4],[0,5,3,4,0,1,2,3,4,5]]
def Qpa:List Ins->List (List Nat)->Option (List Ins)
 | [⟨some a,none,.mv (.t M)⟩,⟨some b,none,.ld n (.t E)⟩,⟨some c,none,.lk ks (.i k z) false (.t a1) (.t b1)⟩,⟨some d,none,.bin op (.t c1) (.c (.i k3 one))⟩,⟨some m,none,.ment ks2 (.i k2 z2) (.t a2) (.t b2)⟩,⟨some x,none,.ext (.t m1) j⟩,⟨none,none,.est (.t a3) (.t x1) (.t d1)⟩],aft =>
   if (((a1=a/\b1=b/\c1=c/\ks2=ks/\k2=k/\z2=z)/\(a2=a/\b2=b/\m1=m/\j=1/\a3=a/\x1=x/\d1=d))/\(M<a/\E<a/\a<b/\b<c/\c<d/\d<m/\m<x))/\aft=Qmy then
    some [⟨some a,none,.mv (.t M)⟩,⟨some b,none,.ld n (.t E)⟩,⟨none,none,.eqa ks false (.t b) (.t b)⟩,⟨some c,none,.lk ks (.i k z) false (.t a) (.t b)⟩,⟨some d,none,.bin op (.t c) (.c (.i k3 one))⟩,⟨some m,none,.ment ks (.i k z) (.t a) (.t b)⟩,⟨some x,none,.ext (.t m) 1⟩,⟨none,none,.est (.t a) (.t x) (.t d)⟩]
   else none
 | _,_=>none
theorem AX1 {P:Program} {xs:List Ins} {aft:List (List Nat)} {n i:Nat} {ls:List Nat} {σ:St} {κ:St->Prop} (hr:Q0g aft ls=[i])
  (h:∃x,xs[i]?=some x/\AG P x σ (λσ'=>AX P xs aft n (i::ls) σ' κ)):AX P xs aft (n+1) ls σ κ:=by
 refine⟨λh0=>by rw[hr]at h0;simp at h0,λq hq=>?_⟩;rw[hr]at hq
 simp at hq;subst hq;exact h
theorem AX2 {P:Program} {xs:List Ins} {aft:List (List Nat)} {n i j:Nat} {ls:List Nat} {σ:St} {κ:St->Prop} (hr:Q0g aft ls=[i,j])
  (h:∃x,xs[i]?=some x/\AG P x σ (λσ'=>AX P xs aft n (i::ls) σ' κ)) (h':∃x,xs[j]?=some x/\AG P x σ (λσ'=>AX P xs aft n (j::ls) σ' κ)):AX P xs aft (n+1) ls σ κ:=by
 refine⟨λh0=>by rw[hr]at h0;simp at h0,λq hq=>?_⟩;rw[hr]at hq
 simp at hq;rcases hq with rfl | rfl
 ·exact h
 ·exact h'
def Z0i (i:I):Prop:=∀(P:Program) (d:Option Nat) (σ:St) (k:St->Prop),A1 P ⟨d,none,i⟩ σ k=(match Q3 i (A.ev σ.env) σ.h with | some (r,h')=>k ⟨Qp d r σ.env,h'⟩ | none=>False)
theorem AGp {P:Program} {xs:List Ins} {i:Nat} {d:Option Nat} {I:I} {σ:St} {r:V} {h':List O} {K:St->Prop} (hx:xs[i]?=some ⟨d,none,I⟩) (hp:Z0i I) (hs:Q3 I (A.ev σ.env) σ.h=some (r,h')) (hk:K ⟨Qp d r σ.env,h'⟩) :
  ∃x,xs[i]?=some x/\AG P x σ K:=by
 refine⟨_,hx,?_⟩;unfold AG;simp only;rw[hp,hs];exact hk
theorem AOp {P:Program} {d:Option Nat} {I:I} {l:List Ins} {σ:St} {κ:St->Prop} (hp:Z0i I) (h:AO P (⟨d,none,I⟩::l) σ κ):∃r h',Q3 I (A.ev σ.env) σ.h=some (r,h')/\AO P l ⟨Qp d r σ.env,h'⟩ κ:=by
 simp only[AO]at h;rw[hp]at h
 cases hs:Q3 I (A.ev σ.env) σ.h with
 | none=>rw[hs]at h;exact h.elim
 | some p=>obtain⟨r,h'⟩:=p;rw[hs]at h;exact⟨r,h',rfl,h⟩
theorem Qr1:∀{k:Nat} {x:V} {r:Bool},Q8v k x x=some r->r=true:=by
 intro k x r h;cases x<;>simp[Q8v]at h<;>simp[h]
theorem Q31:∀{ks:List Nat} {xs:List V} {r:Bool},Zi ks xs xs=some r->r=true
 | [],[],r,h=>by simp[Zi]at h;exact h
 | k::ks,x::xs,r,h=>by
   simp only[Zi]at h;split at h
   ·rename_i p q hp hq;simp only[Option.some.injEq]at h;rw[<- h,Qr1 hp,Q31 hq];rfl
   ·simp at h
 | [],_::_,r,h=>by simp[Zi]at h
 | _::_,[],r,h=>by simp[Zi]at h
theorem Q4m {ks:List Nat} {K z:V} (hs:Zl ks K=true) (hv:Zi ks K.cells K.cells=some true):∀{es:List (V × V)},Qo ks K es=some none->Qo ks K (es++[(K,z)])=some (some (es.length,z))
 | [],_=>by simp[Qo,hs,hv]
 | (k',v)::r,h=>by
   simp only[Qo,List.cons_append]at h ⊢;split at h
   ·rename_i hsh;rw[if_pos hsh];split at h
    ·simp at h
    ·rename_i hveq;simp only[qa]at h;obtain⟨q,hq,hq2⟩:=h;cases q with
     | some q=>simp at hq2
     | none=>rw[Q4m hs hv hq];simp
    ·simp at h
   ·simp at h
theorem Q4l {ks:List Nat} {K:V} (hs:Zl ks K=true) (hv:Zi ks K.cells K.cells=some true):∀{es:List (V × V)} {i:Nat} {v:V},Qo ks K es=some (some (i,v))->Qo ks K (es.set i (K,v))=some (some (i,v))
 | [],i,v,h=>by simp only[Qo]at h;split at h<;>simp at h
 | (k',v')::r,i,v,h=>by
   simp only[Qo]at h;split at h
   ·rename_i hsh;split at h
    ·simp at h;obtain⟨rfl,rfl⟩:=h;simp[Qo,hs,hv]
    ·rename_i hveq;simp only[qa]at h;obtain⟨q,hq,hq2⟩:=h;cases q with
     | none=>simp at hq2
     | some q =>
       obtain⟨i',w⟩:=q;simp at hq2;obtain⟨rfl,rfl⟩:=hq2;have:=Q4l hs hv hq;simp only[List.set_cons_succ,Qo];rw[if_pos hsh,hveq,this];simp
    ·simp at h
   ·simp at h
attribute [local simp] Qp Qe Qs
set_option maxHeartbeats 1600000 in
theorem Qxl {P:Program} {M E a b c d m x:Nat} {n:Option Nat} {ks:List Nat} {k k3:IntKind} {z one:Int} {op:BinOp} (hMa:M<a) (hEa:E<a) (hab:a<b) (hbc:b<c) (hcd:c<d) (hdm:d<m) (hmx:m<x)
  {env0:List (Nat × V)} {h0:List O} {κ:St->Prop}
  (h:AO P [⟨some a,none,.mv (.t M)⟩,⟨some b,none,.ld n (.t E)⟩,⟨none,none,.eqa ks false (.t b) (.t b)⟩,⟨some c,none,.lk ks (.i k z) false (.t a) (.t b)⟩,⟨some d,none,.bin op (.t c) (.c (.i k3 one))⟩,⟨some m,none,.ment ks (.i k z) (.t a) (.t b)⟩,⟨some x,none,.ext (.t m) 1⟩,⟨none,none,.est (.t a) (.t x) (.t d)⟩] ⟨env0,h0⟩ κ) :
  AX P [⟨some a,none,.mv (.t M)⟩,⟨some b,none,.ld n (.t E)⟩,⟨some c,none,.lk ks (.i k z) false (.t a) (.t b)⟩,⟨some d,none,.bin op (.t c) (.c (.i k3 one))⟩,⟨some m,none,.ment ks (.i k z) (.t a) (.t b)⟩,⟨some x,none,.ext (.t m) 1⟩,⟨none,none,.est (.t a) (.t x) (.t d)⟩] Qmy 7 [] ⟨env0,h0⟩ κ:=by
 obtain⟨Mv,h1,q0,h⟩:=AOp (λ_ _ _ _=>rfl) h;simp only[Q3,A.ev,Option.some.injEq,Prod.mk.injEq]at q0;obtain⟨hM,rfl⟩:=q0;obtain⟨Kv,h1,q1,h⟩:=AOp (λ_ _ _ _=>rfl) h;simp only[Q3,A.ev,Qp,qa,Prod.mk.injEq]at q1;obtain⟨Kv',q1,rfl,rfl⟩:=q1;rw[Qe _ _ (by omega)]at q1
 obtain⟨rc,h1,qc,h⟩:=AOp (λ_ _ _ _=>rfl) h;simp only[Q3,A.ev,Qp,Qs]at qc;obtain⟨pk,hpk⟩:∃pk,Kv'=.a pk:=by
  cases Kv'<;>simp at qc
  exact⟨_,rfl⟩
 subst hpk;simp only[qa,Prod.mk.injEq]at qc;obtain⟨rb,qc,_,rfl⟩:=qc;have hrb:=Q31 qc;subst hrb;obtain⟨r2,h1',q2,h⟩:=AOp (λ_ _ _ _=>rfl) h;simp only[Qp]at q2 h;simp only[Q3,A.ev,Qs,Qe _ _ (show a≠b by omega)]at q2;obtain⟨W,h3,q3,h⟩:=AOp (λ_ _ _ _=>rfl) h;simp only[Qp]at q3 h;simp only[Q3,A.ev,Qs,qa,Prod.mk.injEq]at q3;obtain⟨W',q3,rfl,rfl⟩:=q3
 obtain⟨r4,h4,q4,h⟩:=AOp (λ_ _ _ _=>rfl) h;simp only[Qp]at q4 h;simp only[Q3,A.ev,Qs,Qe _ _ (show a≠b by omega),Qe _ _ (show a≠c by omega),Qe _ _ (show a≠d by omega),Qe _ _ (show b≠c by omega),Qe _ _ (show b≠d by omega)]at q4;obtain⟨id,rfl⟩:∃id,Mv=.mp id:=by
  cases Mv<;>simp at q4
  exact⟨_,rfl⟩
 obtain⟨es,ho⟩:∃es,h1'[id]?=some (.mp es):=by
  simp only at q4;split at q4
  ·exact⟨_,by assumption⟩
  ·simp at q4
 simp only[ho]at q4;simp only[Zm]at q2;obtain⟨hks,hkl⟩:Zl ks (.a pk)=true/\True:=by
  refine⟨?_,trivial⟩;cases hf:Qo ks (.a pk) es with
  | none=>rw[hf]at q4;simp at q4
  | some res=>exact(Kp hf).1
 have hself:Zi ks (V.a pk).cells (V.a pk).cells=some true:=qc;have key:∃i es1,h1'=h0/\r4=.t [r2,.i .i64 (i:Nat)]/\h4=h0.set id (.mp es1)/\Qo ks (.a pk) es1=some (some (i,r2)):=by
  cases hf:Qo ks (.a pk) es with
  | none=>rw[hf]at q4;simp at q4
  | some res =>
    rw[hf]at q4
    cases res with
    | none =>
      simp only[Option.some.injEq,Prod.mk.injEq]at q4;obtain⟨rfl,rfl⟩:=q4;split at q2
      case h_2=>simp at q2
      rename_i es' hes;split at q2<;>simp at q2
      all_goals (obtain⟨rfl,rfl⟩:=q2)
      all_goals (rw[ho]at hes;simp at hes;subst hes)
      ·rename_i hh;rw[hf]at hh;simp at hh
      ·exact⟨_,_,rfl,rfl,rfl,Q4m hks hself hf⟩
    | some p =>
      obtain⟨i,v⟩:=p;simp only[Option.some.injEq,Prod.mk.injEq]at q4;obtain⟨rfl,rfl⟩:=q4;split at q2
      case h_2=>simp at q2
      rename_i es' hes;split at q2<;>simp at q2
      all_goals (obtain⟨rfl,rfl⟩:=q2)
      all_goals (rw[ho]at hes;simp at hes;subst hes)
      ·rename_i hh;rw[hf]at hh;simp at hh
       obtain⟨rfl,rfl⟩:=hh;exact⟨_,_,rfl,rfl,rfl,Q4l hks hself hf⟩
      ·rename_i hh;rw[hf]at hh;simp at hh
 obtain⟨i,es1,rfl,rfl,rfl,hf1⟩:=key;have hidl:=(q8.1 ho).1;obtain⟨r5,h5,q5,h⟩:=AOp (λ_ _ _ _=>rfl) h;simp only[Qp]at q5 h;simp[Q3,A.ev,Qs]at q5
 obtain⟨rfl,rfl⟩:=q5;obtain⟨r6,h6,q6,hκ⟩:=AOp (λ_ _ _ _=>rfl) h;simp only[Qp,AO]at q6 hκ;have nab:a≠b:=by omega
 have nac:a≠c:=by omega
 have nad:a≠d:=by omega
 have nam:a≠m:=by omega
 have nax:a≠x:=by omega
 have nbc:b≠c:=by omega
 have nbd:b≠d:=by omega
 have nbm:b≠m:=by omega
 have nbx:b≠x:=by omega
 have ncd:c≠d:=by omega
 have ncm:c≠m:=by omega
 have ncx:c≠x:=by omega
 have ndm:d≠m:=by omega
 have ndx:d≠x:=by omega
 have nmx:m≠x:=by omega
 have nMb:M≠b:=by omega
 have nEa:E≠a:=by omega
 have S0:∀env h,get M env=.mp id->Q3 (.mv (.t M)) (A.ev env) h=some (.mp id,h):=λenv h hh=>by simp[Q3,A.ev,hh]
 have S1:∀env,get E env=get E env0->Q3 (.ld n (.t E)) (A.ev env) h1'=some (.a pk,h1'):=λenv hh=>by simp only[Q3,A.ev,hh,q1,Option.map_some]
 have S2:∀env,get a env=.mp id->get b env=.a pk->Q3 (.lk ks (.i k z) false (.t a) (.t b)) (A.ev env) h1'=some (r2,h1'):=λenv h1 h2=>by
  simp only[Q3,A.ev,h1,h2,Zm];exact q2
 have S2b:∀env,get a env=.mp id->get b env=.a pk->Q3 (.lk ks (.i k z) false (.t a) (.t b)) (A.ev env) (h1'.set id (.mp es1))=some (r2,h1'.set id (.mp es1)):=λenv h1 h2=>by
  simp only[Q3,A.ev,h1,h2,Zm,qm hidl,hf1,Bool.false_eq_true,if_false]
 have S3:∀env h,get c env=r2->Q3 (.bin op (.t c) (.c (.i k3 one))) (A.ev env) h=some (W',h):=λenv h hh=>by
  simp only[Q3,A.ev,hh];rw[q3];rfl
 have S4:∀env,get a env=.mp id->get b env=.a pk->Q3 (.ment ks (.i k z) (.t a) (.t b)) (A.ev env) h1'=some (.t [r2,.i .i64 i],h1'.set id (.mp es1)):=λenv h1 h2=>by
  simp only[Q3,A.ev,h1,h2,ho];exact q4
 have S5:∀env h,get m env=.t [r2,.i .i64 i]->Q3 (.ext (.t m) 1) (A.ev env) h=some (.i .i64 i,h):=λenv h hh=>by simp[Q3,A.ev,hh]
 have S6:∀env,get a env=.mp id->get x env=.i .i64 i->get d env=W'->Q3 (.est (.t a) (.t x) (.t d)) (A.ev env) (h1'.set id (.mp es1))=some (r6,h6):=λenv h1 h2 h3=>by
  rw[<- q6];simp only[Q3,A.ev,h1,h2,h3,Qs,Qe _ _ nab,Qe _ _ nac,Qe _ _ nad,Qe _ _ nam,Qe _ _ nax,Qe _ _ ndm,Qe _ _ ndx]
 have N:=And.intro nab<|And.intro nac<|And.intro nad<|And.intro nam<|And.intro nax<|And.intro nbc<|And.intro nbd<|And.intro nbm<|And.intro nbx<|And.intro ncd<|And.intro ncm<|And.intro ncx<|And.intro ndm<|And.intro ndx<|And.intro nmx<|And.intro nab.symm<|And.intro ncm.symm<|And.intro ncx.symm<|And.intro ndm.symm<|ndx.symm
 have Cab:∀v u env,put a v (put b u env)=put b u (put a v env):=λv u env=>Yh nab v u env
 have Ccm:∀v u env,put c v (put m u env)=put m u (put c v env):=λv u env=>Yh ncm v u env
 have Ccx:∀v u env,put c v (put x u env)=put x u (put c v env):=λv u env=>Yh ncx v u env
 have Cdm:∀v u env,put d v (put m u env)=put m u (put d v env):=λv u env=>Yh ndm v u env
 have Cdx:∀v u env,put d v (put x u env)=put x u (put d v env):=λv u env=>Yh ndx v u env
 exact
  AX2 rfl (AGp rfl (λ_ _ _ _=>rfl) (S0 _ _ (by simp[Qp,Qe,hM,nMb])) (
   AX1 rfl (AGp rfl (λ_ _ _ _=>rfl) (S1 _ (by simp[Qp,Qe,nEa])) (
    AX2 rfl (AGp rfl (λ_ _ _ _=>rfl) (S2 _ (by simp[N]) (by simp[N])) (
     AX2 rfl (AGp rfl (λ_ _ _ _=>rfl) (S3 _ _ (by simp[N])) (
      AX1 rfl (AGp rfl (λ_ _ _ _=>rfl) (S4 _ (by simp[N]) (by simp[N])) (
       AX1 rfl (AGp rfl (λ_ _ _ _=>rfl) (S5 _ _ (by simp[N])) (
        AX1 rfl (AGp rfl (λ_ _ _ _=>rfl) (S6 _ (by simp[N]) (by simp[N]) (by simp[N])) (
         ⟨rfl,by simpa only[Qp,Cab,Ccm,Ccx,Cdm,Cdx]using hκ⟩
        ))
       ))
      ))
     )) (AGp rfl (λ_ _ _ _=>rfl) (S4 _ (by simp[N]) (by simp[N])) (
      AX2 rfl (AGp rfl (λ_ _ _ _=>rfl) (S3 _ _ (by simp[N])) (
       AX1 rfl (AGp rfl (λ_ _ _ _=>rfl) (S5 _ _ (by simp[N])) (
        AX1 rfl (AGp rfl (λ_ _ _ _=>rfl) (S6 _ (by simp[N]) (by simp[N]) (by simp[N])) (
         ⟨rfl,by simpa only[Qp,Cab,Ccm,Ccx,Cdm,Cdx]using hκ⟩
        ))
       ))
      )) (AGp rfl (λ_ _ _ _=>rfl) (S5 _ _ (by simp[N])) (
       AX1 rfl (AGp rfl (λ_ _ _ _=>rfl) (S3 _ _ (by simp[N])) (
        AX1 rfl (AGp rfl (λ_ _ _ _=>rfl) (S6 _ (by simp[N]) (by simp[N]) (by simp[N])) (
         ⟨rfl,by simpa only[Qp,Cab,Ccm,Ccx,Cdm,Cdx]using hκ⟩
        ))
       ))
      ))
     ))
    )) (AGp rfl (λ_ _ _ _=>rfl) (S4 _ (by simp[N]) (by simp[N])) (
     AX2 rfl (AGp rfl (λ_ _ _ _=>rfl) (S2b _ (by simp[N]) (by simp[N])) (
      AX2 rfl (AGp rfl (λ_ _ _ _=>rfl) (S3 _ _ (by simp[N])) (
       AX1 rfl (AGp rfl (λ_ _ _ _=>rfl) (S5 _ _ (by simp[N])) (
        AX1 rfl (AGp rfl (λ_ _ _ _=>rfl) (S6 _ (by simp[N]) (by simp[N]) (by simp[N])) (
         ⟨rfl,by simpa only[Qp,Cab,Ccm,Ccx,Cdm,Cdx]using hκ⟩
        ))
       ))
      )) (AGp rfl (λ_ _ _ _=>rfl) (S5 _ _ (by simp[N])) (
       AX1 rfl (AGp rfl (λ_ _ _ _=>rfl) (S3 _ _ (by simp[N])) (
        AX1 rfl (AGp rfl (λ_ _ _ _=>rfl) (S6 _ (by simp[N]) (by simp[N]) (by simp[N])) (
         ⟨rfl,by simpa only[Qp,Cab,Ccm,Ccx,Cdm,Cdx]using hκ⟩
        ))
       ))
      ))
     )) (AGp rfl (λ_ _ _ _=>rfl) (S5 _ _ (by simp[N])) (
      AX1 rfl (AGp rfl (λ_ _ _ _=>rfl) (S2b _ (by simp[N]) (by simp[N])) (
       AX1 rfl (AGp rfl (λ_ _ _ _=>rfl) (S3 _ _ (by simp[N])) (
        AX1 rfl (AGp rfl (λ_ _ _ _=>rfl) (S6 _ (by simp[N]) (by simp[N]) (by simp[N])) (
         ⟨rfl,by simpa only[Qp,Cab,Ccm,Ccx,Cdm,Cdx]using hκ⟩
        ))
       ))
      ))
     ))
    ))
   ))
  )) (AGp rfl (λ_ _ _ _=>rfl) (S1 _ (by simp[Qp,Qe,nEa])) (
   AX1 rfl (AGp rfl (λ_ _ _ _=>rfl) (S0 _ _ (by simp[Qp,Qe,hM,nMb])) (
    AX2 rfl (AGp rfl (λ_ _ _ _=>rfl) (S2 _ (by simp[N]) (by simp[N])) (
     AX2 rfl (AGp rfl (λ_ _ _ _=>rfl) (S3 _ _ (by simp[N])) (
      AX1 rfl (AGp rfl (λ_ _ _ _=>rfl) (S4 _ (by simp[N]) (by simp[N])) (
       AX1 rfl (AGp rfl (λ_ _ _ _=>rfl) (S5 _ _ (by simp[N])) (
        AX1 rfl (AGp rfl (λ_ _ _ _=>rfl) (S6 _ (by simp[N]) (by simp[N]) (by simp[N])) (
         ⟨rfl,by simpa only[Qp,Cab,Ccm,Ccx,Cdm,Cdx]using hκ⟩
        ))
       ))
      ))
     )) (AGp rfl (λ_ _ _ _=>rfl) (S4 _ (by simp[N]) (by simp[N])) (
      AX2 rfl (AGp rfl (λ_ _ _ _=>rfl) (S3 _ _ (by simp[N])) (
       AX1 rfl (AGp rfl (λ_ _ _ _=>rfl) (S5 _ _ (by simp[N])) (
        AX1 rfl (AGp rfl (λ_ _ _ _=>rfl) (S6 _ (by simp[N]) (by simp[N]) (by simp[N])) (
         ⟨rfl,by simpa only[Qp,Cab,Ccm,Ccx,Cdm,Cdx]using hκ⟩
        ))
       ))
      )) (AGp rfl (λ_ _ _ _=>rfl) (S5 _ _ (by simp[N])) (
       AX1 rfl (AGp rfl (λ_ _ _ _=>rfl) (S3 _ _ (by simp[N])) (
        AX1 rfl (AGp rfl (λ_ _ _ _=>rfl) (S6 _ (by simp[N]) (by simp[N]) (by simp[N])) (
         ⟨rfl,by simpa only[Qp,Cab,Ccm,Ccx,Cdm,Cdx]using hκ⟩
        ))
       ))
      ))
     ))
    )) (AGp rfl (λ_ _ _ _=>rfl) (S4 _ (by simp[N]) (by simp[N])) (
     AX2 rfl (AGp rfl (λ_ _ _ _=>rfl) (S2b _ (by simp[N]) (by simp[N])) (
      AX2 rfl (AGp rfl (λ_ _ _ _=>rfl) (S3 _ _ (by simp[N])) (
       AX1 rfl (AGp rfl (λ_ _ _ _=>rfl) (S5 _ _ (by simp[N])) (
        AX1 rfl (AGp rfl (λ_ _ _ _=>rfl) (S6 _ (by simp[N]) (by simp[N]) (by simp[N])) (
         ⟨rfl,by simpa only[Qp,Cab,Ccm,Ccx,Cdm,Cdx]using hκ⟩
        ))
       ))
      )) (AGp rfl (λ_ _ _ _=>rfl) (S5 _ _ (by simp[N])) (
       AX1 rfl (AGp rfl (λ_ _ _ _=>rfl) (S3 _ _ (by simp[N])) (
        AX1 rfl (AGp rfl (λ_ _ _ _=>rfl) (S6 _ (by simp[N]) (by simp[N]) (by simp[N])) (
         ⟨rfl,by simpa only[Qp,Cab,Ccm,Ccx,Cdm,Cdx]using hκ⟩
        ))
       ))
      ))
     )) (AGp rfl (λ_ _ _ _=>rfl) (S5 _ _ (by simp[N])) (
      AX1 rfl (AGp rfl (λ_ _ _ _=>rfl) (S2b _ (by simp[N]) (by simp[N])) (
       AX1 rfl (AGp rfl (λ_ _ _ _=>rfl) (S3 _ _ (by simp[N])) (
        AX1 rfl (AGp rfl (λ_ _ _ _=>rfl) (S6 _ (by simp[N]) (by simp[N]) (by simp[N])) (
         ⟨rfl,by simpa only[Qp,Cab,Ccm,Ccx,Cdm,Cdx]using hκ⟩
        ))
       ))
      ))
     ))
    ))
   ))
  ))
theorem inc_ok {P:Program} {l l':List Ins} {aft:List (List Nat)} (hi:Qpa l aft=some l') {σ:St} {κ:St->Prop} (h:AO P l' σ κ):aft=Qmy/\l.length=7/\AX P l aft 7 [] σ κ:=by
 unfold Qpa at hi;split at hi
 case h_2=>simp at hi
 simp only[ja,Option.some.injEq]at hi;obtain⟨⟨⟨⟨⟨rfl,rfl,rfl,rfl,rfl,rfl⟩,rfl,rfl,rfl,rfl,rfl,rfl,rfl⟩,hMa,hEa,hab,hbc,hcd,hdm,hmx⟩,rfl⟩,rfl⟩:=hi;exact⟨rfl,rfl,Qxl hMa hEa hab hbc hcd hdm hmx h⟩
end Go.Abs
