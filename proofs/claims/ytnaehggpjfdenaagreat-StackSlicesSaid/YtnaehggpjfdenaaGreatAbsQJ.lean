/- The region of a map's entry that is counted up, its key a field (m[s.F]++): its orders all do the same. -/
import Derived.Test.YtnaehggpjfdenaaGreatAbsQI
set_option linter.unusedVariables false
set_option linter.unusedSimpArgs false
namespace Go.Abs
open Go.RowKit
def Qh0:List (List Nat):=[[],[],[1],[0,2],[3],[0,2,0,1,2],[5],[0,6,4,5,0,1,2,3,4,5,6]]
def Qgz:List Ins->List (List Nat)->Option (List Ins)
 | [⟨some a,none,.mv (.t M)⟩,⟨some f,none,.fa off (.t E)⟩,⟨some b,none,.ld n (.t f1)⟩,⟨some c,none,.lk ks (.i k z) false (.t a1) (.t b1)⟩,⟨some d,none,.bin op (.t c1) (.c (.i k3 one))⟩,⟨some m,none,.ment ks2 (.i k2 z2) (.t a2) (.t b2)⟩,⟨some x,none,.ext (.t m1) j⟩,⟨none,none,.est (.t a3) (.t x1) (.t d1)⟩],aft =>
   if (((f1=f/\a1=a/\b1=b/\c1=c/\ks2=ks/\k2=k/\z2=z)/\(a2=a/\b2=b/\m1=m/\j=1/\a3=a/\x1=x/\d1=d))/\(M<a/\E<a/\a<f/\f<b/\b<c/\c<d/\d<m/\m<x))/\aft=Qh0 then
    some [⟨some a,none,.mv (.t M)⟩,⟨some f,none,.fa off (.t E)⟩,⟨some b,none,.ld n (.t f)⟩,⟨none,none,.eqa ks false (.t b) (.t b)⟩,⟨some c,none,.lk ks (.i k z) false (.t a) (.t b)⟩,⟨some d,none,.bin op (.t c) (.c (.i k3 one))⟩,⟨some m,none,.ment ks (.i k z) (.t a) (.t b)⟩,⟨some x,none,.ext (.t m) 1⟩,⟨none,none,.est (.t a) (.t x) (.t d)⟩]
   else none
 | _,_=>none
theorem Qfe {off:Nat} {x:A} {ev:A->V} {h h':List O} {r:V} (hs:Q3 (.fa off x) ev h=some (r,h')):h'=h:=by
 simp only[Q3]at hs
 repeat' split at hs
 all_goals first
  | (simp at hs;done)
  | (simp only[Option.some.injEq,Prod.mk.injEq]at hs;exact hs.2.symm)
attribute [local simp] Qp Qe Qs
set_option maxHeartbeats 1600000 in
theorem Qs9 {P:Program} {M E a f b c d m x off:Nat} {n:Option Nat} {ks:List Nat} {k k3:IntKind} {z one:Int} {op:BinOp} (hMa:M<a) (hEa:E<a) (haf:a<f) (hfb:f<b) (hbc:b<c) (hcd:c<d) (hdm:d<m) (hmx:m<x)
  {env0:List (Nat × V)} {h0:List O} {κ:St->Prop}
  (h:AO P [⟨some a,none,.mv (.t M)⟩,⟨some f,none,.fa off (.t E)⟩,⟨some b,none,.ld n (.t f)⟩,⟨none,none,.eqa ks false (.t b) (.t b)⟩,⟨some c,none,.lk ks (.i k z) false (.t a) (.t b)⟩,⟨some d,none,.bin op (.t c) (.c (.i k3 one))⟩,⟨some m,none,.ment ks (.i k z) (.t a) (.t b)⟩,⟨some x,none,.ext (.t m) 1⟩,⟨none,none,.est (.t a) (.t x) (.t d)⟩] ⟨env0,h0⟩ κ) :
  AX P [⟨some a,none,.mv (.t M)⟩,⟨some f,none,.fa off (.t E)⟩,⟨some b,none,.ld n (.t f)⟩,⟨some c,none,.lk ks (.i k z) false (.t a) (.t b)⟩,⟨some d,none,.bin op (.t c) (.c (.i k3 one))⟩,⟨some m,none,.ment ks (.i k z) (.t a) (.t b)⟩,⟨some x,none,.ext (.t m) 1⟩,⟨none,none,.est (.t a) (.t x) (.t d)⟩] Qh0 8 [] ⟨env0,h0⟩ κ:=by
 obtain⟨Mv,h1,q0,h⟩:=AOp (λ_ _ _ _=>rfl) h;simp only[Q3,A.ev,Option.some.injEq,Prod.mk.injEq]at q0;obtain⟨hM,rfl⟩:=q0;obtain⟨Fv,hF,qF,h⟩:=AOp (λ_ _ _ _=>rfl) h;have hFe:hF=h0:=Qfe qF;rw[hFe]at qF h
 clear hFe;simp only[Qp]at qF h;obtain⟨Kv,h1,q1,h⟩:=AOp (λ_ _ _ _=>rfl) h;simp only[Q3,A.ev,Qp,Qs,qa,Prod.mk.injEq]at q1;obtain⟨Kv',q1,rfl,rfl⟩:=q1;obtain⟨rc,h1,qc,h⟩:=AOp (λ_ _ _ _=>rfl) h;simp only[Q3,A.ev,Qp,Qs]at qc;obtain⟨pk,hpk⟩:∃pk,Kv'=.a pk:=by
  cases Kv'<;>simp at qc
  exact⟨_,rfl⟩
 subst hpk;simp only[qa,Prod.mk.injEq]at qc;obtain⟨rb,qc,_,rfl⟩:=qc;have hrb:=Q31 qc;subst hrb;obtain⟨r2,h1',q2,h⟩:=AOp (λ_ _ _ _=>rfl) h;simp only[Qp]at q2 h;simp only[Q3,A.ev,Qs,Qe _ _ (show a≠b by omega),Qe _ _ (show a≠f by omega)]at q2;obtain⟨W,h3,q3,h⟩:=AOp (λ_ _ _ _=>rfl) h;simp only[Qp]at q3 h;simp only[Q3,A.ev,Qs,qa,Prod.mk.injEq]at q3;obtain⟨W',q3,rfl,rfl⟩:=q3
 obtain⟨r4,h4,q4,h⟩:=AOp (λ_ _ _ _=>rfl) h;simp only[Qp]at q4 h;simp only[Q3,A.ev,Qs,Qe _ _ (show a≠b by omega),Qe _ _ (show a≠f by omega),Qe _ _ (show a≠c by omega),Qe _ _ (show a≠d by omega),Qe _ _ (show b≠c by omega),Qe _ _ (show b≠d by omega)]at q4;obtain⟨id,rfl⟩:∃id,Mv=.mp id:=by
  cases Mv<;>simp at q4
  exact⟨_,rfl⟩
 obtain⟨es,ho⟩:∃es,h1'[id]?=some (.mp es):=by
  simp only at q4;split at q4
  ·exact⟨_,by assumption⟩
  ·simp at q4
 simp only[ho]at q4;simp only[Zm]at q2;obtain⟨hks,hkl⟩:Zl ks (.a pk)=true/\True:=by
  refine⟨?_,trivial⟩;cases hf:Qo ks (.a pk) es with
  | none=>rw[hf]at q4;simp at q4
  | some res=>exact(Kp hf).1
 have hself:Zi ks (V.a pk).cells (V.a pk).cells=some true:=qc;have key:∃i es1,h1'=h0/\r4=.t [r2,.i .i64 (i:Nat)]/\h4=h0.set id (.mp es1)/\Qo ks (.a pk) es1=some (some (i,r2)):=by
  cases hf:Qo ks (.a pk) es with
  | none=>rw[hf]at q4;simp at q4
  | some res =>
    rw[hf]at q4
    cases res with
    | none =>
      simp only[Option.some.injEq,Prod.mk.injEq]at q4;obtain⟨rfl,rfl⟩:=q4;split at q2
      case h_2=>simp at q2
      rename_i es' hes;split at q2<;>simp at q2
      all_goals (obtain⟨rfl,rfl⟩:=q2)
      all_goals (rw[ho]at hes;simp at hes;subst hes)
      ·rename_i hh;rw[hf]at hh;simp at hh
      ·exact⟨_,_,rfl,rfl,rfl,Q4m hks hself hf⟩
    | some p =>
      obtain⟨i,v⟩:=p;simp only[Option.some.injEq,Prod.mk.injEq]at q4;obtain⟨rfl,rfl⟩:=q4;split at q2
      case h_2=>simp at q2
      rename_i es' hes;split at q2<;>simp at q2
      all_goals (obtain⟨rfl,rfl⟩:=q2)
      all_goals (rw[ho]at hes;simp at hes;subst hes)
      ·rename_i hh;rw[hf]at hh;simp at hh
       obtain⟨rfl,rfl⟩:=hh;exact⟨_,_,rfl,rfl,rfl,Q4l hks hself hf⟩
      ·rename_i hh;rw[hf]at hh;simp at hh
 obtain⟨i,es1,rfl,rfl,rfl,hf1⟩:=key;have hidl:=(q8.1 ho).1;obtain⟨r5,h5,q5,h⟩:=AOp (λ_ _ _ _=>rfl) h;simp only[Qp]at q5 h;simp[Q3,A.ev,Qs]at q5
 obtain⟨rfl,rfl⟩:=q5;obtain⟨r6,h6,q6,hκ⟩:=AOp (λ_ _ _ _=>rfl) h;simp only[Qp,AO]at q6 hκ;have nab:a≠b:=by omega
 have naf:a≠f:=by omega
 have nfb:f≠b:=by omega
 have nfc:f≠c:=by omega
 have nfd:f≠d:=by omega
 have nfm:f≠m:=by omega
 have nfx:f≠x:=by omega
 have nMf:M≠f:=by omega
 have nac:a≠c:=by omega
 have nad:a≠d:=by omega
 have nam:a≠m:=by omega
 have nax:a≠x:=by omega
 have nbc:b≠c:=by omega
 have nbd:b≠d:=by omega
 have nbm:b≠m:=by omega
 have nbx:b≠x:=by omega
 have ncd:c≠d:=by omega
 have ncm:c≠m:=by omega
 have ncx:c≠x:=by omega
 have ndm:d≠m:=by omega
 have ndx:d≠x:=by omega
 have nmx:m≠x:=by omega
 have nMb:M≠b:=by omega
 have nEa:E≠a:=by omega
 have S0:∀env h,get M env=.mp id->Q3 (.mv (.t M)) (A.ev env) h=some (.mp id,h):=λenv h hh=>by simp[Q3,A.ev,hh]
 have SF:∀env,get E env=get E env0->Q3 (.fa off (.t E)) (A.ev env) h1'=some (Fv,h1'):=λenv hh=>by
  rw[<- qF];simp only[Q3,A.ev,hh,Qe _ _ nEa]
 have S1:∀env,get f env=Fv->Q3 (.ld n (.t f)) (A.ev env) h1'=some (.a pk,h1'):=λenv hh=>by simp only[Q3,A.ev,hh,q1,Option.map_some]
 have S2:∀env,get a env=.mp id->get b env=.a pk->Q3 (.lk ks (.i k z) false (.t a) (.t b)) (A.ev env) h1'=some (r2,h1'):=λenv h1 h2=>by
  simp only[Q3,A.ev,h1,h2,Zm];exact q2
 have S2b:∀env,get a env=.mp id->get b env=.a pk->Q3 (.lk ks (.i k z) false (.t a) (.t b)) (A.ev env) (h1'.set id (.mp es1))=some (r2,h1'.set id (.mp es1)):=λenv h1 h2=>by
  simp only[Q3,A.ev,h1,h2,Zm,qm hidl,hf1,Bool.false_eq_true,if_false]
 have S3:∀env h,get c env=r2->Q3 (.bin op (.t c) (.c (.i k3 one))) (A.ev env) h=some (W',h):=λenv h hh=>by
  simp only[Q3,A.ev,hh];rw[q3];rfl
 have S4:∀env,get a env=.mp id->get b env=.a pk->Q3 (.ment ks (.i k z) (.t a) (.t b)) (A.ev env) h1'=some (.t [r2,.i .i64 i],h1'.set id (.mp es1)):=λenv h1 h2=>by
  simp only[Q3,A.ev,h1,h2,ho];exact q4
 have S5:∀env h,get m env=.t [r2,.i .i64 i]->Q3 (.ext (.t m) 1) (A.ev env) h=some (.i .i64 i,h):=λenv h hh=>by simp[Q3,A.ev,hh]
 have S6:∀env,get a env=.mp id->get x env=.i .i64 i->get d env=W'->Q3 (.est (.t a) (.t x) (.t d)) (A.ev env) (h1'.set id (.mp es1))=some (r6,h6):=λenv h1 h2 h3=>by
  rw[<- q6];simp only[Q3,A.ev,h1,h2,h3,Qs,Qe _ _ nab,Qe _ _ naf,Qe _ _ nac,Qe _ _ nad,Qe _ _ nam,Qe _ _ nax,Qe _ _ ndm,Qe _ _ ndx]
 have N:=And.intro nab<|And.intro naf<|And.intro nfb<|And.intro nac<|And.intro nad<|And.intro nam<|And.intro nax<|And.intro nbc<|And.intro nbd<|And.intro nbm<|And.intro nbx<|And.intro ncd<|And.intro ncm<|And.intro ncx<|And.intro ndm<|And.intro ndx<|And.intro nmx<|And.intro nfc<|And.intro nfd<|And.intro nfm<|And.intro nfx<|And.intro nab.symm<|And.intro naf.symm<|And.intro nfb.symm<|And.intro ncm.symm<|And.intro ncx.symm<|And.intro ndm.symm<|And.intro ndx.symm<|And.intro nfc.symm<|nbc.symm
 have Cab:∀v u env,put a v (put b u env)=put b u (put a v env):=λv u env=>Yh nab v u env
 have Caf:∀v u env,put a v (put f u env)=put f u (put a v env):=λv u env=>Yh naf v u env
 have Ccm:∀v u env,put c v (put m u env)=put m u (put c v env):=λv u env=>Yh ncm v u env
 have Ccx:∀v u env,put c v (put x u env)=put x u (put c v env):=λv u env=>Yh ncx v u env
 have Cdm:∀v u env,put d v (put m u env)=put m u (put d v env):=λv u env=>Yh ndm v u env
 have Cdx:∀v u env,put d v (put x u env)=put x u (put d v env):=λv u env=>Yh ndx v u env
 exact
  AX2 rfl (AGp rfl (λ_ _ _ _=>rfl) (S0 _ _ (by simp[Qp,Qe,hM,nMb,nMf])) (
   AX1 rfl (AGp rfl (λ_ _ _ _=>rfl) (SF _ (by simp[Qp,Qe,nEa])) (
    AX1 rfl (AGp rfl (λ_ _ _ _=>rfl) (S1 _ (by simp[N])) (
     AX2 rfl (AGp rfl (λ_ _ _ _=>rfl) (S2 _ (by simp[N]) (by simp[N])) (
      AX2 rfl (AGp rfl (λ_ _ _ _=>rfl) (S3 _ _ (by simp[N])) (
       AX1 rfl (AGp rfl (λ_ _ _ _=>rfl) (S4 _ (by simp[N]) (by simp[N])) (
        AX1 rfl (AGp rfl (λ_ _ _ _=>rfl) (S5 _ _ (by simp[N])) (
         AX1 rfl (AGp rfl (λ_ _ _ _=>rfl) (S6 _ (by simp[N]) (by simp[N]) (by simp[N])) (
          ⟨rfl,by simpa only[Qp,Cab,Caf,Ccm,Ccx,Cdm,Cdx]using hκ⟩
         ))
        ))
       ))
      )) (AGp rfl (λ_ _ _ _=>rfl) (S4 _ (by simp[N]) (by simp[N])) (
       AX2 rfl (AGp rfl (λ_ _ _ _=>rfl) (S3 _ _ (by simp[N])) (
        AX1 rfl (AGp rfl (λ_ _ _ _=>rfl) (S5 _ _ (by simp[N])) (
         AX1 rfl (AGp rfl (λ_ _ _ _=>rfl) (S6 _ (by simp[N]) (by simp[N]) (by simp[N])) (
          ⟨rfl,by simpa only[Qp,Cab,Caf,Ccm,Ccx,Cdm,Cdx]using hκ⟩
         ))
        ))
       )) (AGp rfl (λ_ _ _ _=>rfl) (S5 _ _ (by simp[N])) (
        AX1 rfl (AGp rfl (λ_ _ _ _=>rfl) (S3 _ _ (by simp[N])) (
         AX1 rfl (AGp rfl (λ_ _ _ _=>rfl) (S6 _ (by simp[N]) (by simp[N]) (by simp[N])) (
          ⟨rfl,by simpa only[Qp,Cab,Caf,Ccm,Ccx,Cdm,Cdx]using hκ⟩
         ))
        ))
       ))
      ))
     )) (AGp rfl (λ_ _ _ _=>rfl) (S4 _ (by simp[N]) (by simp[N])) (
      AX2 rfl (AGp rfl (λ_ _ _ _=>rfl) (S2b _ (by simp[N]) (by simp[N])) (
       AX2 rfl (AGp rfl (λ_ _ _ _=>rfl) (S3 _ _ (by simp[N])) (
        AX1 rfl (AGp rfl (λ_ _ _ _=>rfl) (S5 _ _ (by simp[N])) (
         AX1 rfl (AGp rfl (λ_ _ _ _=>rfl) (S6 _ (by simp[N]) (by simp[N]) (by simp[N])) (
          ⟨rfl,by simpa only[Qp,Cab,Caf,Ccm,Ccx,Cdm,Cdx]using hκ⟩
         ))
        ))
       )) (AGp rfl (λ_ _ _ _=>rfl) (S5 _ _ (by simp[N])) (
        AX1 rfl (AGp rfl (λ_ _ _ _=>rfl) (S3 _ _ (by simp[N])) (
         AX1 rfl (AGp rfl (λ_ _ _ _=>rfl) (S6 _ (by simp[N]) (by simp[N]) (by simp[N])) (
          ⟨rfl,by simpa only[Qp,Cab,Caf,Ccm,Ccx,Cdm,Cdx]using hκ⟩
         ))
        ))
       ))
      )) (AGp rfl (λ_ _ _ _=>rfl) (S5 _ _ (by simp[N])) (
       AX1 rfl (AGp rfl (λ_ _ _ _=>rfl) (S2b _ (by simp[N]) (by simp[N])) (
        AX1 rfl (AGp rfl (λ_ _ _ _=>rfl) (S3 _ _ (by simp[N])) (
         AX1 rfl (AGp rfl (λ_ _ _ _=>rfl) (S6 _ (by simp[N]) (by simp[N]) (by simp[N])) (
          ⟨rfl,by simpa only[Qp,Cab,Caf,Ccm,Ccx,Cdm,Cdx]using hκ⟩
         ))
        ))
       ))
      ))
     ))
    ))
   ))
  )) (AGp rfl (λ_ _ _ _=>rfl) (SF _ (by simp[Qp,Qe,nEa])) (
   AX2 rfl (AGp rfl (λ_ _ _ _=>rfl) (S0 _ _ (by simp[Qp,Qe,hM,nMb,nMf])) (
    AX1 rfl (AGp rfl (λ_ _ _ _=>rfl) (S1 _ (by simp[N])) (
     AX2 rfl (AGp rfl (λ_ _ _ _=>rfl) (S2 _ (by simp[N]) (by simp[N])) (
      AX2 rfl (AGp rfl (λ_ _ _ _=>rfl) (S3 _ _ (by simp[N])) (
       AX1 rfl (AGp rfl (λ_ _ _ _=>rfl) (S4 _ (by simp[N]) (by simp[N])) (
        AX1 rfl (AGp rfl (λ_ _ _ _=>rfl) (S5 _ _ (by simp[N])) (
         AX1 rfl (AGp rfl (λ_ _ _ _=>rfl) (S6 _ (by simp[N]) (by simp[N]) (by simp[N])) (
          ⟨rfl,by simpa only[Qp,Cab,Caf,Ccm,Ccx,Cdm,Cdx]using hκ⟩
         ))
        ))
       ))
      )) (AGp rfl (λ_ _ _ _=>rfl) (S4 _ (by simp[N]) (by simp[N])) (
       AX2 rfl (AGp rfl (λ_ _ _ _=>rfl) (S3 _ _ (by simp[N])) (
        AX1 rfl (AGp rfl (λ_ _ _ _=>rfl) (S5 _ _ (by simp[N])) (
         AX1 rfl (AGp rfl (λ_ _ _ _=>rfl) (S6 _ (by simp[N]) (by simp[N]) (by simp[N])) (
          ⟨rfl,by simpa only[Qp,Cab,Caf,Ccm,Ccx,Cdm,Cdx]using hκ⟩
         ))
        ))
       )) (AGp rfl (λ_ _ _ _=>rfl) (S5 _ _ (by simp[N])) (
        AX1 rfl (AGp rfl (λ_ _ _ _=>rfl) (S3 _ _ (by simp[N])) (
         AX1 rfl (AGp rfl (λ_ _ _ _=>rfl) (S6 _ (by simp[N]) (by simp[N]) (by simp[N])) (
          ⟨rfl,by simpa only[Qp,Cab,Caf,Ccm,Ccx,Cdm,Cdx]using hκ⟩
         ))
        ))
       ))
      ))
     )) (AGp rfl (λ_ _ _ _=>rfl) (S4 _ (by simp[N]) (by simp[N])) (
      AX2 rfl (AGp rfl (λ_ _ _ _=>rfl) (S2b _ (by simp[N]) (by simp[N])) (
       AX2 rfl (AGp rfl (λ_ _ _ _=>rfl) (S3 _ _ (by simp[N])) (
        AX1 rfl (AGp rfl (λ_ _ _ _=>rfl) (S5 _ _ (by simp[N])) (
         AX1 rfl (AGp rfl (λ_ _ _ _=>rfl) (S6 _ (by simp[N]) (by simp[N]) (by simp[N])) (
          ⟨rfl,by simpa only[Qp,Cab,Caf,Ccm,Ccx,Cdm,Cdx]using hκ⟩
         ))
        ))
       )) (AGp rfl (λ_ _ _ _=>rfl) (S5 _ _ (by simp[N])) (
        AX1 rfl (AGp rfl (λ_ _ _ _=>rfl) (S3 _ _ (by simp[N])) (
         AX1 rfl (AGp rfl (λ_ _ _ _=>rfl) (S6 _ (by simp[N]) (by simp[N]) (by simp[N])) (
          ⟨rfl,by simpa only[Qp,Cab,Caf,Ccm,Ccx,Cdm,Cdx]using hκ⟩
         ))
        ))
       ))
      )) (AGp rfl (λ_ _ _ _=>rfl) (S5 _ _ (by simp[N])) (
       AX1 rfl (AGp rfl (λ_ _ _ _=>rfl) (S2b _ (by simp[N]) (by simp[N])) (
        AX1 rfl (AGp rfl (λ_ _ _ _=>rfl) (S3 _ _ (by simp[N])) (
         AX1 rfl (AGp rfl (λ_ _ _ _=>rfl) (S6 _ (by simp[N]) (by simp[N]) (by simp[N])) (
          ⟨rfl,by simpa only[Qp,Cab,Caf,Ccm,Ccx,Cdm,Cdx]using hκ⟩
         ))
        ))
       ))
      ))
     ))
    ))
   )) (AGp rfl (λ_ _ _ _=>rfl) (S1 _ (by simp[N])) (
    AX1 rfl (AGp rfl (λ_ _ _ _=>rfl) (S0 _ _ (by simp[Qp,Qe,hM,nMb,nMf])) (
     AX2 rfl (AGp rfl (λ_ _ _ _=>rfl) (S2 _ (by simp[N]) (by simp[N])) (
      AX2 rfl (AGp rfl (λ_ _ _ _=>rfl) (S3 _ _ (by simp[N])) (
       AX1 rfl (AGp rfl (λ_ _ _ _=>rfl) (S4 _ (by simp[N]) (by simp[N])) (
        AX1 rfl (AGp rfl (λ_ _ _ _=>rfl) (S5 _ _ (by simp[N])) (
         AX1 rfl (AGp rfl (λ_ _ _ _=>rfl) (S6 _ (by simp[N]) (by simp[N]) (by simp[N])) (
          ⟨rfl,by simpa only[Qp,Cab,Caf,Ccm,Ccx,Cdm,Cdx]using hκ⟩
         ))
        ))
       ))
      )) (AGp rfl (λ_ _ _ _=>rfl) (S4 _ (by simp[N]) (by simp[N])) (
       AX2 rfl (AGp rfl (λ_ _ _ _=>rfl) (S3 _ _ (by simp[N])) (
        AX1 rfl (AGp rfl (λ_ _ _ _=>rfl) (S5 _ _ (by simp[N])) (
         AX1 rfl (AGp rfl (λ_ _ _ _=>rfl) (S6 _ (by simp[N]) (by simp[N]) (by simp[N])) (
          ⟨rfl,by simpa only[Qp,Cab,Caf,Ccm,Ccx,Cdm,Cdx]using hκ⟩
         ))
        ))
       )) (AGp rfl (λ_ _ _ _=>rfl) (S5 _ _ (by simp[N])) (
        AX1 rfl (AGp rfl (λ_ _ _ _=>rfl) (S3 _ _ (by simp[N])) (
         AX1 rfl (AGp rfl (λ_ _ _ _=>rfl) (S6 _ (by simp[N]) (by simp[N]) (by simp[N])) (
          ⟨rfl,by simpa only[Qp,Cab,Caf,Ccm,Ccx,Cdm,Cdx]using hκ⟩
         ))
        ))
       ))
      ))
     )) (AGp rfl (λ_ _ _ _=>rfl) (S4 _ (by simp[N]) (by simp[N])) (
      AX2 rfl (AGp rfl (λ_ _ _ _=>rfl) (S2b _ (by simp[N]) (by simp[N])) (
       AX2 rfl (AGp rfl (λ_ _ _ _=>rfl) (S3 _ _ (by simp[N])) (
        AX1 rfl (AGp rfl (λ_ _ _ _=>rfl) (S5 _ _ (by simp[N])) (
         AX1 rfl (AGp rfl (λ_ _ _ _=>rfl) (S6 _ (by simp[N]) (by simp[N]) (by simp[N])) (
          ⟨rfl,by simpa only[Qp,Cab,Caf,Ccm,Ccx,Cdm,Cdx]using hκ⟩
         ))
        ))
       )) (AGp rfl (λ_ _ _ _=>rfl) (S5 _ _ (by simp[N])) (
        AX1 rfl (AGp rfl (λ_ _ _ _=>rfl) (S3 _ _ (by simp[N])) (
         AX1 rfl (AGp rfl (λ_ _ _ _=>rfl) (S6 _ (by simp[N]) (by simp[N]) (by simp[N])) (
          ⟨rfl,by simpa only[Qp,Cab,Caf,Ccm,Ccx,Cdm,Cdx]using hκ⟩
         ))
        ))
       ))
      )) (AGp rfl (λ_ _ _ _=>rfl) (S5 _ _ (by simp[N])) (
       AX1 rfl (AGp rfl (λ_ _ _ _=>rfl) (S2b _ (by simp[N]) (by simp[N])) (
        AX1 rfl (AGp rfl (λ_ _ _ _=>rfl) (S3 _ _ (by simp[N])) (
         AX1 rfl (AGp rfl (λ_ _ _ _=>rfl) (S6 _ (by simp[N]) (by simp[N]) (by simp[N])) (
          ⟨rfl,by simpa only[Qp,Cab,Caf,Ccm,Ccx,Cdm,Cdx]using hκ⟩
         ))
        ))
       ))
      ))
     ))
    ))
   ))
  ))
theorem inc2_ok {P:Program} {l l':List Ins} {aft:List (List Nat)} (hi:Qgz l aft=some l') {σ:St} {κ:St->Prop} (h:AO P l' σ κ):aft=Qh0/\l.length=8/\AX P l aft 8 [] σ κ:=by
 unfold Qgz at hi;split at hi
 case h_2=>simp at hi
 simp only[ja,Option.some.injEq]at hi;obtain⟨⟨⟨⟨⟨rfl,rfl,rfl,rfl,rfl,rfl,rfl⟩,rfl,rfl,rfl,rfl,rfl,rfl,rfl⟩,hMa,hEa,haf,hfb,hbc,hcd,hdm,hmx⟩,rfl⟩,rfl⟩:=hi;exact⟨rfl,rfl,Qs9 hMa hEa haf hfb hbc hcd hdm hmx h⟩
end Go.Abs
